import Derived.Test.YtmdafjegddnecaaMz
import Derived.Test.YtmdafjegddnecaaMg
/- Ethernet frames: ether.Write, ether.Ours. -/
namespace Go.Proofs.Ytmdafjegddnecaa
open Go.Pm Go.Wb
set_option linter.unusedVariables false
set_option linter.unusedSimpArgs false
set_option maxRecDepth 1000000
def ethA (dst src : List Int) (ty : Int) : AV := .agg (B8 dst ++ (B8 src ++ [.v (.int .u16 ty)]))
def ethW (dst src : List Int) (ty : Int) (b : List Int) : List Int := dst ++ (src ++ (ty / 256 :: ty % 256 :: b))
def ethV (dst src : List Int) (ty : Int) (b : List Int) : AV × List (List AV) := if 1646 < b.length then ewE 3 else ewC (ethW dst src ty b)
set_option maxHeartbeats 16000000 in
theorem ewrite_run (d0 d1 d2 d3 d4 d5 s0 s1 s2 s3 s4 s5 ty : Int) (b : List Int) (nn : Bool) (cap : Option Nat) (hl : b.length ≤ 500000) (y0 : 0 ≤ ty) (y1 : ty ≤ 65535) : runF Try.prog K0 Dm 100000 1 93 [ethA [d0, d1, d2, d3, d4, d5] [s0, s1, s2, s3, s4, s5] ty, .sl nn (B8 b) b.length cap] = some (ethV [d0, d1, d2, d3, d4, d5] [s0, s1, s2, s3, s4, s5] ty b) := by
  have m3 : ty.fdiv 256 = ty / 256 := Int.fdiv_eq_ediv_of_nonneg _ (by omega)
  have m5 : IntKind.u8.wrap (ty / 256) = ty / 256 := wrapu8_id (by omega) (by omega)
  have m7 : IntKind.u8.wrap ty = ty % 256 := by simp [IntKind.wrap, IntKind.signed, IntKind.bits]
  have m8 : IntKind.u16.wrap (ty / 256) = ty / 256 := wrapu16_id (by omega) (by omega)
  have bt : b.take b.length = b := List.take_length
  have b1 : b.length ≤ 549755813888 := by omega
  have b2 : b.length ≤ 549755813874 := by omega
  have b3 : 14 + b.length ≤ 549755813888 := by omega
  unfold runF ethV
  rw [pvCall_own (fn := Try.f93) rfl Try.func93 rfl (by decide) rfl rfl (by simp)]
  by_cases h : 1646 < b.length
  · have i1 : (1646 : Int) < (b.length : Int) := by omega
    simp -implicitDefEqProofs [h, i1, ethA, ewE, B8vc, B8vn, splice]
  have i1 : ¬ (1646 : Int) < (b.length : Int) := by omega
  have tY : ∀ l : List AV, l.length = 14 → (l ++ B8 b).take (14 + b.length) = l ++ B8 b := fun l hl => List.take_of_length_le (by simp [hl])
  simp -implicitDefEqProofs [h, i1, m3, m5, m7, m8, bt, b1, b2, b3, ethA, ethW, ewC, B8vc, B8vn, splice, IntKind.bits, Nat.testBit_eq_decide_div_mod_eq]
  all_goals omega
theorem eours_run (ty : Int) : runF Try.prog K0 Dm 100000 1 72 [.v (.int .u16 ty)] = some (.v (.bool (decide (ty = 2048) || decide (ty = 34525))), []) := by
  unfold runF
  rw [pvCall_own (fn := Try.f72) rfl Try.func72 rfl (by decide) rfl rfl (by simp)]
  by_cases h : ty = 2048
  · subst h
    simp -implicitDefEqProofs [loopK_pos, splice]
  · have hb : (2048 == ty) = false := by simp; omega
    by_cases h2 : ty = 34525
    · subst h2
      simp -implicitDefEqProofs [loopK_pos, splice]
    · have hb2 : (34525 == ty) = false := by simp; omega
      simp -implicitDefEqProofs [h, h2, hb, hb2, loopK_pos, splice]
def asEth : List AV → Option (List Int × List Int × Int)
  | cs => (asB8 (cs.take 6)).bind fun dst => (asB8 ((cs.drop 6).take 6)).bind fun src => match cs.drop 12 with
    | [.v (.int .u16 ty)] => some (dst, src, ty)
    | _ => none
theorem asEth_eq {cs : List AV} {r : List Int × List Int × Int} (h : asEth cs = some r) : cs = B8 r.1 ++ (B8 r.2.1 ++ [.v (.int .u16 r.2.2)]) := by
  unfold asEth at h
  obtain ⟨dst, e1, h1⟩ := Option.bind_eq_some_iff.1 h
  obtain ⟨src, e2, h2⟩ := Option.bind_eq_some_iff.1 h1
  split at h2
  · rename_i ty hr
    cases h2
    have e1' := asB8_eq e1
    have e2' := asB8_eq e2
    rw [← e1', ← e2', ← hr]
    conv => lhs; rw [← List.take_append_drop 6 cs]
    congr 1
    conv => lhs; rw [← List.take_append_drop 6 (cs.drop 6)]
    rw [List.drop_drop]
  · cases h2
def fEthW : Fun
  | [.agg cs, .sl nn c len cap] => (asEth cs).bind fun r => (asB8 c).bind fun b => if r.1.length = 6 ∧ r.2.1.length = 6 ∧ 0 ≤ r.2.2 ∧ r.2.2 ≤ 65535 ∧ b.length = len ∧ len ≤ 500000 then some (ethV r.1 r.2.1 r.2.2 b) else none
  | _ => none
theorem ethw_pure : Pure Try.prog 93 fEthW := (runF_pure k0_ok follows_mixed dm_ok 100000 1 93).weaken fun args r h => by
  unfold fEthW at h
  split at h
  · rename_i cs nn c len cap
    obtain ⟨⟨dst, src, ty⟩, e1, h1⟩ := Option.bind_eq_some_iff.1 h
    obtain ⟨b, e2, he⟩ := Option.bind_eq_some_iff.1 h1
    clear h h1
    split at he
    case isFalse => cases he
    rename_i hh
    simp only at hh he
    obtain ⟨x1, x2, x3, x4, rfl, x6⟩ := hh
    have e1' := asEth_eq e1
    simp only at e1'
    subst e1'
    obtain rfl := asB8_eq e2
    rw [← he]
    match dst, x1, src, x2 with
    | [d0, d1, d2, d3, d4, d5], _, [s0, s1, s2, s3, s4, s5], _ => exact ewrite_run d0 d1 d2 d3 d4 d5 s0 s1 s2 s3 s4 s5 ty b nn cap x6 x3 x4
  · cases h
def fEOurs : Fun
  | [.v (.int .u16 ty)] => some (.v (.bool (decide (ty = 2048) || decide (ty = 34525))), [])
  | _ => none
theorem eours_pure : Pure Try.prog 72 fEOurs := (runF_pure k0_ok follows_mixed dm_ok 100000 1 72).weaken fun args r h => by
  unfold fEOurs at h
  split at h
  · rw [← h]; exact eours_run _
  · cases h
end Go.Proofs.Ytmdafjegddnecaa

/- Hashes: that they are some number. -/
namespace Go.Proofs.Ytmdafjegddnecaa
open Go.Pm Go.Wb
set_option linter.unusedVariables false
set_option linter.unusedSimpArgs false
set_option maxRecDepth 1000000
def fnvF : Int → List Int → Int
  | h, [] => h
  | h, x :: xs => fnvF (IntKind.u64.wrap (bits .xor .u64 h x * 1099511628211)) xs
set_option maxHeartbeats 16000000 in
theorem hfnv_run (zs : List Int) (nn : Bool) (cap : Option Nat) (hl : zs.length ≤ 1000) (hz : bytesB zs = true) : runF Try.prog K0 Dm 100000 1 169 [.sl nn (B8 zs) zs.length cap] = some (.v (.int .u64 (fnvF 14695981039346656037 zs)), []) := by
  unfold runF
  rw [pvCall_own (fn := Try.f169) rfl Try.func169 rfl (by decide) rfl rfl (by simp)]
  simp -implicitDefEqProofs []
  generalize hL : loopK _ _ _ _ _ _ _ _ _ ⟨_, _⟩ = R
  obtain ⟨e, t', m', rfl, hk, hm, rfl, hQ⟩ := loop_met5 hL [3, 5, 8, 9, 10, 11, 12, 13, 14, 15, 16, 17] []
    (fun j t m => t 8 = .v (.int .i64 (j : Int)) ∧ ∃ s : Int, t 3 = .v (.int .u64 s) ∧ fnvF 14695981039346656037 zs = fnvF s (zs.drop j))
    (fun e t m => e = .exit 0 ∧ t 3 = .v (.int .u64 (fnvF 14695981039346656037 zs))) zs.length (by omega) ⟨by simp, _, by simp; exact rfl, by simp⟩
    (fun j t m hj hk hm ⟨ec, s, es, hI⟩ => by
      have e6 := hk 6 (by decide)
      have e7 := hk 7 (by decide)
      simp at e6 e7
      by_cases hq : j = zs.length
      · left
        refine ⟨.exit 0, ?t0p, m, by simp, ?a0p, ?b0p, hm, rfl, ?c0p⟩
        case a0p =>
          simp -implicitDefEqProofs [ec, e6, e7, hq]
          exact rfl
        case b0p =>
          repeat' refine Kept.upd ?_ (by decide) _
          exact hk
        case c0p =>
          rw [hq, List.drop_length] at hI
          simp [es, hI, fnvF]
      right
      have hjn : j < zs.length := by omega
      have j1 : (j : Int) < (zs.length : Int) := by omega
      have j4 := B8_at0 zs j hjn
      have g := gb_range hz j
      have w1 : IntKind.u64.wrap (gb zs j) = gb zs j := by simp [IntKind.wrap, IntKind.signed, IntKind.bits]; omega
      have j7 : IntKind.i64.wrap ((j : Int) + 1) = ((j + 1 : Nat) : Int) := by rw [wrap64_id (by omega) (by omega)]; omega
      have hd : zs.drop j = gb zs j :: zs.drop (j + 1) := by
        rw [List.drop_eq_getElem_cons hjn]
        congr 1
        unfold gb
        rw [List.getD_eq_getElem?_getD, List.getElem?_eq_getElem hjn]; rfl
      refine ⟨hjn, ?t2p, ?m2p, ?a2p, ?b2p, ?c2p, ?d2p⟩
      case a2p =>
        simp -implicitDefEqProofs [ec, es, e6, e7, hjn, j1, j4, j7, w1, splice]
        constructor
        · exact rfl
        · exact rfl
      case b2p =>
        repeat' refine Kept.upd ?_ (by decide) _
        exact hk
      case c2p =>
        repeat' refine KeptM.upd ?_ (by decide) _
        exact hm
      case d2p =>
        refine ⟨by simp, _, by simp; exact rfl, ?_⟩
        rw [hI, hd, fnvF])
  simp -implicitDefEqProofs [hQ]
def fHFnv : Fun
  | [.sl nn b len cap] => (asB8 b).bind fun zs => if zs.length = len ∧ len ≤ 1000 ∧ bytesB zs = true then some (.v (.int .u64 (fnvF 14695981039346656037 zs)), []) else none
  | _ => none
theorem hfnv_pure : Pure Try.prog 169 fHFnv := (runF_pure k0_ok follows_mixed dm_ok 100000 1 169).weaken fun args r h => by
  unfold fHFnv at h
  split at h
  · rename_i nn b len cap
    obtain ⟨zs, hz, he⟩ := Option.bind_eq_some_iff.1 h
    clear h
    split at he
    case isFalse => cases he
    rename_i hh
    obtain ⟨rfl, h1, h2⟩ := hh
    obtain rfl := asB8_eq hz
    rw [← he]
    exact hfnv_run zs nn cap h1 h2
  · cases h
theorem u64_range (x : Int) : 0 ≤ IntKind.u64.wrap x ∧ IntKind.u64.wrap x < 18446744073709551616 := by simp [IntKind.wrap, IntKind.signed, IntKind.bits]; omega
def mixV (n : Int) : Int := IntKind.u64.wrap (bits .xor .u64 (IntKind.u64.wrap (bits .xor .u64 (IntKind.u64.wrap (bits .xor .u64 n (n.fdiv (2 ^ 30)) * 13787848793156543929)) ((IntKind.u64.wrap (bits .xor .u64 n (n.fdiv (2 ^ 30)) * 13787848793156543929)).fdiv (2 ^ 27)) * 10723151780598845931)) ((IntKind.u64.wrap (bits .xor .u64 (IntKind.u64.wrap (bits .xor .u64 n (n.fdiv (2 ^ 30)) * 13787848793156543929)) ((IntKind.u64.wrap (bits .xor .u64 n (n.fdiv (2 ^ 30)) * 13787848793156543929)).fdiv (2 ^ 27)) * 10723151780598845931)).fdiv (2 ^ 31)) * 1)
set_option maxHeartbeats 16000000 in
theorem hmix_run (n : Int) : runF Try.prog K0 Dm 100000 2 168 [.v (.int .u64 n)] = some (.v (.int .u64 (mixV n)), []) := by
  have hmd := fun (px : Nat) (args : List AV) (m : Mem) (hl : args.length ≤ Try.f180.ntmps) => pvCall_own (P := Try.prog) (K := K0) (D := Dm) (L := 100000) (d := 0) (px := px) (args := args) (m := m) (f := 180) (fn := Try.f180) rfl Try.func180 rfl (by decide) rfl rfl hl
  unfold runF mixV
  rw [pvCall_own (fn := Try.f168) rfl Try.func168 rfl (by decide) rfl rfl (by simp)]
  simp -implicitDefEqProofs [hmd, loopK_pos, splice, IntKind.bits, Nat.testBit_eq_decide_div_mod_eq]
def fHMix : Fun
  | [.v (.int .u64 n)] => some (.v (.int .u64 (mixV n)), [])
  | _ => none
theorem hmix_pure : Pure Try.prog 168 fHMix := (runF_pure k0_ok follows_mixed dm_ok 100000 2 168).weaken fun args r h => by
  unfold fHMix at h
  split at h
  · rw [← h]; exact hmix_run _
  · cases h
noncomputable def KFH : Nat → Option Con
  | 169 => some fHFnv
  | 168 => some fHMix
  | _ => none
theorem kfh_ok : KOk Try.prog KFH := fun f F h => by
  unfold KFH at h
  split at h
  · cases h; exact ⟨hfnv_pure, _, Try.func169, rfl, by decide⟩
  · cases h; exact ⟨hmix_pure, _, Try.func168, rfl, by decide⟩
  · cases h
section
variable {D : FuncId → Nat → List Nat} {L d px : Nat} {args : List AV} {m : Mem}
theorem ckfh_hfnv : pvCall Try.prog KFH D L d px 169 args m = callBy fHFnv m px args := pvCall_by rfl
theorem ckfh_hmix : pvCall Try.prog KFH D L d px 168 args m = callBy fHMix m px args := pvCall_by rfl
end
theorem ekfh_hfnv : KFH 169 = some (.pure fHFnv) := rfl
theorem ekfh_hmix : KFH 168 = some (.pure fHMix) := rfl
attribute [simp] ckfh_hfnv ekfh_hfnv ckfh_hmix ekfh_hmix
def tupB (v6 : Bool) (pr : Int) (S D : List Int) (sp dp : Int) : List Int := if v6 = true then 6 :: pr :: (S ++ (D ++ [sp / 256, sp % 256, dp / 256, dp % 256])) else 4 :: pr :: (S.take 4 ++ (D.take 4 ++ [sp / 256, sp % 256, dp / 256, dp % 256]))
def hashV (v6 : Bool) (pr : Int) (S D : List Int) (sp dp : Int) : Int := mixV (bits .xor .u64 (fnvF 14695981039346656037 (tupB v6 pr S D sp dp)) (mixV 0))
set_option maxHeartbeats 32000000 in
theorem htuple_run (v6 : Bool) (pr : Int) (x0 x1 x2 x3 x4 x5 x6 x7 x8 x9 x10 x11 x12 x13 x14 x15 y0 y1 y2 y3 y4 y5 y6 y7 y8 y9 y10 y11 y12 y13 y14 y15 : Int) (sp dp : Int) (bS : bytesB [x0, x1, x2, x3, x4, x5, x6, x7, x8, x9, x10, x11, x12, x13, x14, x15] = true) (bD : bytesB [y0, y1, y2, y3, y4, y5, y6, y7, y8, y9, y10, y11, y12, y13, y14, y15] = true) (p0 : 0 ≤ pr) (p1 : pr ≤ 255) (a0 : 0 ≤ sp) (a1 : sp ≤ 65535) (c0 : 0 ≤ dp) (c1 : dp ≤ 65535) : runF Try.prog KFH Dm 100000 2 91 [tupA v6 pr [x0, x1, x2, x3, x4, x5, x6, x7, x8, x9, x10, x11, x12, x13, x14, x15] [y0, y1, y2, y3, y4, y5, y6, y7, y8, y9, y10, y11, y12, y13, y14, y15] sp dp] = some (.v (.int .u64 (hashV v6 pr [x0, x1, x2, x3, x4, x5, x6, x7, x8, x9, x10, x11, x12, x13, x14, x15] [y0, y1, y2, y3, y4, y5, y6, y7, y8, y9, y10, y11, y12, y13, y14, y15] sp dp)), []) := by
  have hse := fun (px : Nat) (args : List AV) (m : Mem) (hl : args.length ≤ Try.f139.ntmps) => pvCall_own (P := Try.prog) (K := KFH) (D := Dm) (L := 100000) (d := 0) (px := px) (args := args) (m := m) (f := 139) (fn := Try.f139) rfl Try.func139 rfl (by decide) rfl rfl hl
  have hby := fun (px : Nat) (args : List AV) (m : Mem) (hl : args.length ≤ Try.f140.ntmps) => pvCall_own (P := Try.prog) (K := KFH) (D := Dm) (L := 100000) (d := 0) (px := px) (args := args) (m := m) (f := 140) (fn := Try.f140) rfl Try.func140 rfl (by decide) rfl rfl hl
  have m3 : sp.fdiv 256 = sp / 256 := Int.fdiv_eq_ediv_of_nonneg _ (by omega)
  have m4 : dp.fdiv 256 = dp / 256 := Int.fdiv_eq_ediv_of_nonneg _ (by omega)
  have m5 : IntKind.u8.wrap (sp / 256) = sp / 256 := wrapu8_id (by omega) (by omega)
  have m6 : IntKind.u8.wrap (dp / 256) = dp / 256 := wrapu8_id (by omega) (by omega)
  have m7 : IntKind.u8.wrap sp = sp % 256 := by simp [IntKind.wrap, IntKind.signed, IntKind.bits]
  have m8 : IntKind.u8.wrap dp = dp % 256 := by simp [IntKind.wrap, IntKind.signed, IntKind.bits]
  have bt : bytesB (tupB v6 pr [x0, x1, x2, x3, x4, x5, x6, x7, x8, x9, x10, x11, x12, x13, x14, x15] [y0, y1, y2, y3, y4, y5, y6, y7, y8, y9, y10, y11, y12, y13, y14, y15] sp dp) = true := by
    simp only [bytesB_cons, Bool.and_eq_true, decide_eq_true_eq] at bS bD
    unfold tupB
    cases v6 with
    | true =>
      simp only [if_true, List.cons_append, List.nil_append, bytesB_cons, Bool.and_eq_true, decide_eq_true_eq]
      refine ⟨by omega, ⟨p0, p1⟩, bS.1, bS.2.1, bS.2.2.1, bS.2.2.2.1, bS.2.2.2.2.1, bS.2.2.2.2.2.1, bS.2.2.2.2.2.2.1, bS.2.2.2.2.2.2.2.1, bS.2.2.2.2.2.2.2.2.1, bS.2.2.2.2.2.2.2.2.2.1, bS.2.2.2.2.2.2.2.2.2.2.1, bS.2.2.2.2.2.2.2.2.2.2.2.1, bS.2.2.2.2.2.2.2.2.2.2.2.2.1, bS.2.2.2.2.2.2.2.2.2.2.2.2.2.1, bS.2.2.2.2.2.2.2.2.2.2.2.2.2.2.1, bS.2.2.2.2.2.2.2.2.2.2.2.2.2.2.2.1, bD.1, bD.2.1, bD.2.2.1, bD.2.2.2.1, bD.2.2.2.2.1, bD.2.2.2.2.2.1, bD.2.2.2.2.2.2.1, bD.2.2.2.2.2.2.2.1, bD.2.2.2.2.2.2.2.2.1, bD.2.2.2.2.2.2.2.2.2.1, bD.2.2.2.2.2.2.2.2.2.2.1, bD.2.2.2.2.2.2.2.2.2.2.2.1, bD.2.2.2.2.2.2.2.2.2.2.2.2.1, bD.2.2.2.2.2.2.2.2.2.2.2.2.2.1, bD.2.2.2.2.2.2.2.2.2.2.2.2.2.2.1, bD.2.2.2.2.2.2.2.2.2.2.2.2.2.2.2.1, ⟨by omega, by omega⟩, ⟨by omega, by omega⟩, ⟨by omega, by omega⟩, ⟨by omega, by omega⟩, rfl⟩
    | false =>
      simp only [Bool.false_eq_true, if_false, List.take_succ_cons, List.take_zero, List.cons_append, List.nil_append, bytesB_cons, Bool.and_eq_true, decide_eq_true_eq]
      refine ⟨by omega, ⟨p0, p1⟩, bS.1, bS.2.1, bS.2.2.1, bS.2.2.2.1, bD.1, bD.2.1, bD.2.2.1, bD.2.2.2.1, ⟨by omega, by omega⟩, ⟨by omega, by omega⟩, ⟨by omega, by omega⟩, ⟨by omega, by omega⟩, rfl⟩
  unfold runF hashV
  rw [pvCall_own (fn := Try.f91) rfl Try.func91 rfl (by decide) rfl rfl (by simp)]
  cases v6 with
  | true =>
    simp only [tupB, if_true, List.cons_append, List.nil_append] at bt ⊢
    simp -implicitDefEqProofs [hse, hby, bt, m3, m4, m5, m6, m7, m8, tupA, fHFnv, fHMix, B8vc, B8vn, asB8_nil'', asB8_cons'', splice, IntKind.bits, Nat.testBit_eq_decide_div_mod_eq]
  | false =>
    simp only [tupB, Bool.false_eq_true, if_false, List.take_succ_cons, List.take_zero, List.cons_append, List.nil_append] at bt ⊢
    simp -implicitDefEqProofs [hse, hby, bt, m3, m4, m5, m6, m7, m8, tupA, fHFnv, fHMix, B8vc, B8vn, asB8_nil'', asB8_cons'', splice, IntKind.bits, Nat.testBit_eq_decide_div_mod_eq]
theorem list16 (S : List Int) (h : S.length = 16) : ∃ a0 a1 a2 a3 a4 a5 a6 a7 a8 a9 a10 a11 a12 a13 a14 a15 : Int, S = [a0, a1, a2, a3, a4, a5, a6, a7, a8, a9, a10, a11, a12, a13, a14, a15] := by
  match S, h with
  | [a0, a1, a2, a3, a4, a5, a6, a7, a8, a9, a10, a11, a12, a13, a14, a15], _ => exact ⟨a0, a1, a2, a3, a4, a5, a6, a7, a8, a9, a10, a11, a12, a13, a14, a15, rfl⟩
def fHTuple : Fun
  | [.agg (.v (.bool v6) :: .v (.int .u8 pr) :: rest)] => (asB8 (rest.take 16)).bind fun S => (asB8 ((rest.drop 16).take 16)).bind fun D => match rest.drop 32 with
    | [.v (.int .u16 sp), .v (.int .u16 dp)] => if S.length = 16 ∧ D.length = 16 ∧ bytesB S = true ∧ bytesB D = true ∧ 0 ≤ pr ∧ pr ≤ 255 ∧ 0 ≤ sp ∧ sp ≤ 65535 ∧ 0 ≤ dp ∧ dp ≤ 65535 then some (.v (.int .u64 (hashV v6 pr S D sp dp)), []) else none
    | _ => none
  | _ => none
set_option maxHeartbeats 4000000 in
theorem htuple_pure : Pure Try.prog 91 fHTuple := (runF_pure kfh_ok follows_mixed dm_ok 100000 2 91).weaken fun args r h => by
  unfold fHTuple at h
  split at h
  · rename_i v6 pr rest
    obtain ⟨S, e1, h1⟩ := Option.bind_eq_some_iff.1 h
    obtain ⟨D, e2, h2⟩ := Option.bind_eq_some_iff.1 h1
    clear h h1
    split at h2
    · rename_i sp dp hr
      split at h2
      case isFalse => cases h2
      rename_i hh
      obtain ⟨x1, x2, x3, x4, x5, x6, x7, x8, x9, x10⟩ := hh
      have e1' := asB8_eq e1
      have e2' := asB8_eq e2
      have hrest : rest = B8 S ++ (B8 D ++ [.v (.int .u16 sp), .v (.int .u16 dp)]) := by
        rw [← e1', ← e2', ← hr]
        conv => lhs; rw [← List.take_append_drop 16 rest]
        congr 1
        conv => lhs; rw [← List.take_append_drop 16 (rest.drop 16)]
        rw [List.drop_drop]
      subst hrest
      rw [← h2]
      obtain ⟨a0, a1, a2, a3, a4, a5, a6, a7, a8, a9, a10, a11, a12, a13, a14, a15, rfl⟩ := list16 S x1
      obtain ⟨b0, b1, b2, b3, b4, b5, b6, b7, b8, b9, b10, b11, b12, b13, b14, b15, rfl⟩ := list16 D x2
      exact htuple_run v6 pr a0 a1 a2 a3 a4 a5 a6 a7 a8 a9 a10 a11 a12 a13 a14 a15 b0 b1 b2 b3 b4 b5 b6 b7 b8 b9 b10 b11 b12 b13 b14 b15 sp dp x3 x4 x5 x6 x7 x8 x9 x10
    · cases h2
  · cases h
theorem mixV_range (n : Int) : 0 ≤ mixV n ∧ mixV n < 18446744073709551616 := by
  unfold mixV
  exact u64_range _
end Go.Proofs.Ytmdafjegddnecaa

/- Ports of a source, sites that may be. -/
namespace Go.Proofs.Ytmdafjegddnecaa
open Go.Pm Go.Wb
set_option linter.unusedVariables false
set_option linter.unusedSimpArgs false
set_option maxRecDepth 1000000
theorem and16383 (h : Int) (h0 : 0 ≤ h) (h1 : h < 18446744073709551616) : bits .and .u64 h 16383 = h % 16384 := by
  go_bits2
set_option maxHeartbeats 4000000 in
theorem eport_run (h : Int) (h0 : 0 ≤ h) (h1 : h < 18446744073709551616) : runF Try.prog K0 Dm 100000 1 90 [.v (.int .u64 h)] = some (.v (.int .u16 (49152 + h % 16384)), []) := by
  have a := and16383 h h0 h1
  have w1 : IntKind.u16.wrap (h % 16384) = h % 16384 := wrapu16_id (by omega) (by omega)
  have w2 : IntKind.u16.wrap (49152 + h % 16384) = 49152 + h % 16384 := wrapu16_id (by omega) (by omega)
  unfold runF
  rw [pvCall_own (fn := Try.f90) rfl Try.func90 rfl (by decide) rfl rfl (by simp)]
  simp -implicitDefEqProofs [a, w1, w2, splice]
def fEPort : Fun
  | [.v (.int .u64 h)] => if 0 ≤ h ∧ h < 18446744073709551616 then some (.v (.int .u16 (49152 + h % 16384)), []) else none
  | _ => none
theorem eport_pure : Pure Try.prog 90 fEPort := (runF_pure k0_ok follows_mixed dm_ok 100000 1 90).weaken fun args r h => by
  unfold fEPort at h
  split at h
  · split at h
    · rename_i hh; rw [← h]; exact eport_run _ hh.1 hh.2
    · cases h
  · cases h
def siteA (own nx s4 s6 : List Int) : AV := .agg (B8 own ++ (B8 nx ++ (B8 s4 ++ B8 s6)))
set_option maxHeartbeats 16000000 in
theorem msite_run (o0 o1 o2 o3 o4 o5 n0 n1 n2 n3 n4 n5 x0 x1 x2 x3 x4 x5 x6 x7 x8 x9 x10 x11 x12 x13 x14 x15 : Int) (s6 : List Int) (h6 : s6.length = 16) : runF Try.prog K0 Dm 100000 1 92 [siteA [o0, o1, o2, o3, o4, o5] [n0, n1, n2, n3, n4, n5] [x0, x1, x2, x3, x4, x5, x6, x7, x8, x9, x10, x11, x12, x13, x14, x15] s6] = some (.v (.bool (decide ([x4, x5, x6, x7, x8, x9, x10, x11, x12, x13, x14, x15] = zero12))), []) := by
  have e1 := eqV_ints (ss := [x4, x5, x6, x7, x8, x9, x10, x11, x12, x13, x14, x15]) (ds := zero12) rfl
  have p1 := pairOk12 (ss := [x4, x5, x6, x7, x8, x9, x10, x11, x12, x13, x14, x15]) (ds := zero12) rfl rfl
  simp only [zero12, List.map_cons, List.map_nil] at e1 p1
  have t6 : s6.take 16 = s6 := List.take_of_length_le (by omega)
  unfold runF zero12
  rw [pvCall_own (fn := Try.f92) rfl Try.func92 rfl (by decide) rfl rfl (by simp)]
  simp -implicitDefEqProofs [siteA, e1, p1, h6, t6, B8vc, B8vn, splice]
end Go.Proofs.Ytmdafjegddnecaa

/- Sites that may be, frames read, tallies known: contracts. -/
namespace Go.Proofs.Ytmdafjegddnecaa
open Go.Pm Go.Wb
set_option linter.unusedVariables false
set_option linter.unusedSimpArgs false
set_option maxRecDepth 1000000
theorem list6 (S : List Int) (h : S.length = 6) : ∃ a0 a1 a2 a3 a4 a5 : Int, S = [a0, a1, a2, a3, a4, a5] := by
  match S, h with
  | [a0, a1, a2, a3, a4, a5], _ => exact ⟨a0, a1, a2, a3, a4, a5, rfl⟩
def asSite : List AV → Option (List Int × List Int × List Int × List Int)
  | cs => (asB8 (cs.take 6)).bind fun a => (asB8 ((cs.drop 6).take 6)).bind fun b => (asB8 ((cs.drop 12).take 16)).bind fun c => (asB8 (cs.drop 28)).bind fun d => some (a, b, c, d)
theorem asSite_eq {cs : List AV} {r : List Int × List Int × List Int × List Int} (h : asSite cs = some r) : cs = B8 r.1 ++ (B8 r.2.1 ++ (B8 r.2.2.1 ++ B8 r.2.2.2)) := by
  unfold asSite at h
  obtain ⟨a, e1, h⟩ := Option.bind_eq_some_iff.1 h
  obtain ⟨b, e2, h⟩ := Option.bind_eq_some_iff.1 h
  obtain ⟨c, e3, h⟩ := Option.bind_eq_some_iff.1 h
  obtain ⟨d, e4, h⟩ := Option.bind_eq_some_iff.1 h
  cases h
  have e1' := asB8_eq e1
  have e2' := asB8_eq e2
  have e3' := asB8_eq e3
  have e4' := asB8_eq e4
  simp only
  rw [← e1', ← e2', ← e3', ← e4']
  conv => lhs; rw [← List.take_append_drop 6 cs]
  congr 1
  conv => lhs; rw [← List.take_append_drop 6 (cs.drop 6)]
  congr 1
  rw [List.drop_drop]
  conv => lhs; rw [← List.take_append_drop 16 (cs.drop (6 + 6))]
  rw [List.drop_drop]
theorem asSite_at {a b c d : List Int} (h1 : a.length = 6) (h2 : b.length = 6) (h3 : c.length = 16) : asSite (B8 a ++ (B8 b ++ (B8 c ++ B8 d))) = some (a, b, c, d) := by
  unfold asSite
  have d6 : ∀ (z : List Int) (T : List AV), z.length = 6 → (B8 z ++ T).drop 6 = T := fun z T hz => by rw [show 6 = (B8 z).length by simp [hz]]; exact List.drop_left
  have t6 : ∀ (z : List Int) (T : List AV), z.length = 6 → (B8 z ++ T).take 6 = B8 z := fun z T hz => by rw [show 6 = (B8 z).length by simp [hz]]; exact List.take_left
  have e12 : (B8 a ++ (B8 b ++ (B8 c ++ B8 d))).drop 12 = B8 c ++ B8 d := by rw [show (12 : Nat) = 6 + 6 from rfl, ← List.drop_drop, d6 a _ h1, d6 b _ h2]
  have e28 : (B8 a ++ (B8 b ++ (B8 c ++ B8 d))).drop 28 = B8 d := by rw [show (28 : Nat) = 12 + 16 from rfl, ← List.drop_drop, e12, B8d16 h3]
  simp only
  rw [e12, e28, t6 a _ h1, d6 a _ h1, t6 b _ h2, B8t16 h3]
  simp only [asB8_B8, Option.bind_some]
def fMSite : Fun
  | [.agg cs] => (asSite cs).bind fun r => if r.1.length = 6 ∧ r.2.1.length = 6 ∧ r.2.2.1.length = 16 ∧ r.2.2.2.length = 16 then some (.v (.bool (decide (r.2.2.1.drop 4 = zero12))), []) else none
  | _ => none
theorem msite_pure : Pure Try.prog 92 fMSite := (runF_pure k0_ok follows_mixed dm_ok 100000 1 92).weaken fun args r h => by
  unfold fMSite at h
  split at h
  · rename_i cs
    obtain ⟨⟨a, b, c, d⟩, e1, he⟩ := Option.bind_eq_some_iff.1 h
    clear h
    split at he
    case isFalse => cases he
    rename_i hh
    simp only at hh he
    obtain ⟨h1, h2, h3, h4⟩ := hh
    obtain rfl := asSite_eq e1
    rw [← he]
    obtain ⟨o0, o1, o2, o3, o4, o5, rfl⟩ := list6 a h1
    obtain ⟨n0, n1, n2, n3, n4, n5, rfl⟩ := list6 b h2
    obtain ⟨x0, x1, x2, x3, x4, x5, x6, x7, x8, x9, x10, x11, x12, x13, x14, x15, rfl⟩ := list16 c h3
    exact msite_run o0 o1 o2 o3 o4 o5 n0 n1 n2 n3 n4 n5 x0 x1 x2 x3 x4 x5 x6 x7 x8 x9 x10 x11 x12 x13 x14 x15 d h4
  · cases h
noncomputable def KER : Nat → Option Con
  | 66 => some fAClone
  | _ => none
theorem ker_ok : KOk Try.prog KER := fun f F h => by
  unfold KER at h
  split at h
  · cases h; exact ⟨aclone_pure, _, Try.func66, rfl, by decide⟩
  · cases h
section
variable {D : FuncId → Nat → List Nat} {L d px : Nat} {args : List AV} {m : Mem}
theorem cker_aclone : pvCall Try.prog KER D L d px 66 args m = callBy fAClone m px args := pvCall_by rfl
end
theorem eker_aclone : KER 66 = some (.pure fAClone) := rfl
attribute [simp] cker_aclone eker_aclone
def ethE (e : Int) : AV × List (List AV) := (.tup [ethA [0, 0, 0, 0, 0, 0] [0, 0, 0, 0, 0, 0] 0, .v (.slice none 0 0), .v (.int .i64 e)], [])
def ethR (zs : List Int) : AV × List (List AV) := if 1600 < zs.length then ethE 3 else if zs.length < 14 then ethE 4 else (.tup [ethA (zs.take 6) ((zs.drop 6).take 6) (w16 zs 12), .own 0 0 0 (zs.length - 14) 1 (.whole 5), .v (.int .i64 0)], [B8 (zs.drop 14)])
theorem list14 (S : List Int) (h : S.length = 14) : ∃ z0 z1 z2 z3 z4 z5 z6 z7 z8 z9 z10 z11 z12 z13 : Int, S = [z0, z1, z2, z3, z4, z5, z6, z7, z8, z9, z10, z11, z12, z13] := by
  match S, h with
  | [z0, z1, z2, z3, z4, z5, z6, z7, z8, z9, z10, z11, z12, z13], _ => exact ⟨z0, z1, z2, z3, z4, z5, z6, z7, z8, z9, z10, z11, z12, z13, rfl⟩
set_option maxHeartbeats 16000000 in
theorem eread_run (zs : List Int) (nn : Bool) (cap : Option Nat) (hl : zs.length ≤ 500000) (hz : bytesB zs = true) : runF Try.prog KER Dm 100000 1 71 [.sl nn (B8 zs) zs.length cap] = some (ethR zs) := by
  unfold runF ethR
  rw [pvCall_own (fn := Try.f71) rfl Try.func71 rfl (by decide) rfl rfl (by simp)]
  by_cases h3 : 1600 < zs.length
  · have i3 : (1600 : Int) < (zs.length : Int) := by omega
    simp -implicitDefEqProofs [h3, i3, ethE, ethA, B8vc, B8vn, splice]
  have i3 : ¬ (1600 : Int) < (zs.length : Int) := by omega
  by_cases h4 : zs.length < 14
  · have i4 : (zs.length : Int) < 14 := by omega
    simp -implicitDefEqProofs [h3, i3, h4, i4, ethE, ethA, B8vc, B8vn, splice]
  obtain ⟨z0, z1, z2, z3, z4, z5, z6, z7, z8, z9, z10, z11, z12, z13, R, rfl⟩ : ∃ z0 z1 z2 z3 z4 z5 z6 z7 z8 z9 z10 z11 z12 z13 : Int, ∃ R : List Int, zs = z0 :: z1 :: z2 :: z3 :: z4 :: z5 :: z6 :: z7 :: z8 :: z9 :: z10 :: z11 :: z12 :: z13 :: R := by
    obtain ⟨z0, z1, z2, z3, z4, z5, z6, z7, z8, z9, z10, z11, z12, z13, e⟩ := list14 (zs.take 14) (by simp; omega)
    exact ⟨z0, z1, z2, z3, z4, z5, z6, z7, z8, z9, z10, z11, z12, z13, zs.drop 14, by have := List.take_append_drop 14 zs; rw [e] at this; exact this.symm⟩
  have g12 := gb_range hz 12
  have g13 := gb_range hz 13
  have e12 : gb (z0 :: z1 :: z2 :: z3 :: z4 :: z5 :: z6 :: z7 :: z8 :: z9 :: z10 :: z11 :: z12 :: z13 :: R) 12 = z12 := rfl
  have e13 : gb (z0 :: z1 :: z2 :: z3 :: z4 :: z5 :: z6 :: z7 :: z8 :: z9 :: z10 :: z11 :: z12 :: z13 :: R) 13 = z13 := rfl
  rw [e12] at g12
  rw [e13] at g13
  have o1 : bits .or .u16 (z12 * 256) z13 = z12 * 256 + z13 := or16_256 _ _ g12.1 g12.2 g13.1 g13.2
  have w1 : IntKind.u16.wrap z12 = z12 := wrapu16_id (by omega) (by omega)
  have w2 : IntKind.u16.wrap z13 = z13 := wrapu16_id (by omega) (by omega)
  have w3 : IntKind.u16.wrap (z12 * 256) = z12 * 256 := wrapu16_id (by omega) (by omega)
  simp only [List.length_cons] at h3 hl
  have l0 : R.length + 14 - 14 = R.length := by omega
  have tR : R.take R.length = R := List.take_length
  have l1 : R.length ≤ 500000 := by omega
  simp only [List.length_cons, Nat.add_assoc, Nat.reduceAdd]
  have i3 : ¬ (1600 : Int) < (R.length : Int) + 14 := by omega
  have i4 : ¬ (R.length : Int) + 14 < 14 := by omega
  have x6 : (12 : Int) < (R.length : Int) + 14 := by omega
  have x7 : (13 : Int) < (R.length : Int) + 14 := by omega
  have x8 : ¬ 1600 < R.length + 14 := by omega
  have x9 : ¬ R.length + 14 < 14 := by omega
  have y1 : 6 ≤ R.length + 14 := by omega
  have y2 : 6 ≤ R.length + 14 - 6 := by omega
  have y3 : 14 ≤ R.length + 14 := by omega
  have y4 : 12 < R.length + 14 := by omega
  have y5 : 13 < R.length + 14 := by omega
  have y6 : 6 ≤ R.length + 8 := by omega
  have k1 : w16 (z0 :: z1 :: z2 :: z3 :: z4 :: z5 :: z6 :: z7 :: z8 :: z9 :: z10 :: z11 :: z12 :: z13 :: R) 12 = z12 * 256 + z13 := rfl
  simp -implicitDefEqProofs [i3, i4, o1, w1, w2, w3, l0, l1, tR, x6, x7, x8, x9, y1, y2, y3, y4, y5, y6, k1, fAClone, ethA, B8vc, B8vn, splice, IntKind.bits, Nat.testBit_eq_decide_div_mod_eq]
end Go.Proofs.Ytmdafjegddnecaa

/- law30.known; contracts for the law EmitBack. -/
namespace Go.Proofs.Ytmdafjegddnecaa
open Go.Pm Go.Wb
set_option linter.unusedVariables false
set_option linter.unusedSimpArgs false
set_option maxRecDepth 1000000
def fEthR : Fun
  | [.sl nn c len cap] => (asB8 c).bind fun zs => if zs.length = len ∧ len ≤ 500000 ∧ bytesB zs = true then some (ethR zs) else none
  | _ => none
theorem eread_pure : Pure Try.prog 71 fEthR := (runF_pure ker_ok follows_mixed dm_ok 100000 1 71).weaken fun args r h => by
  unfold fEthR at h
  split at h
  · rename_i nn c len cap
    obtain ⟨zs, e2, he⟩ := Option.bind_eq_some_iff.1 h
    clear h
    split at he
    case isFalse => cases he
    rename_i hh
    obtain ⟨rfl, x2, x3⟩ := hh
    obtain rfl := asB8_eq e2
    rw [← he]
    exact eread_run zs nn cap x2 x3
  · cases h
set_option maxHeartbeats 32000000 in
theorem known30_run : runF Try.prog K0 Dm 100000 6 34 [] = some (.v (.bool true), []) := by
  have ha := fun (d px : Nat) (args : List AV) (m : Mem) (hl : args.length ≤ Try.f86.ntmps) => pvCall_own (P := Try.prog) (K := K0) (D := Dm) (L := 100000) (d := d) (px := px) (args := args) (m := m) (f := 86) (fn := Try.f86) rfl Try.func86 rfl (by decide) rfl rfl hl
  have he := fun (d px : Nat) (args : List AV) (m : Mem) (hl : args.length ≤ Try.f87.ntmps) => pvCall_own (P := Try.prog) (K := K0) (D := Dm) (L := 100000) (d := d) (px := px) (args := args) (m := m) (f := 87) (fn := Try.f87) rfl Try.func87 rfl (by decide) rfl rfl hl
  have hd := fun (d px : Nat) (args : List AV) (m : Mem) (hl : args.length ≤ Try.f88.ntmps) => pvCall_own (P := Try.prog) (K := K0) (D := Dm) (L := 100000) (d := d) (px := px) (args := args) (m := m) (f := 88) (fn := Try.f88) rfl Try.func88 rfl (by decide) rfl rfl hl
  have hq := fun (d px : Nat) (args : List AV) (m : Mem) (hl : args.length ≤ Try.f89.ntmps) => pvCall_own (P := Try.prog) (K := K0) (D := Dm) (L := 100000) (d := d) (px := px) (args := args) (m := m) (f := 89) (fn := Try.f89) rfl Try.func89 rfl (by decide) rfl rfl hl
  have hm := fun (d px : Nat) (args : List AV) (m : Mem) (hl : args.length ≤ Try.f137.ntmps) => pvCall_own (P := Try.prog) (K := K0) (D := Dm) (L := 100000) (d := d) (px := px) (args := args) (m := m) (f := 137) (fn := Try.f137) rfl Try.func137 rfl (by decide) rfl rfl hl
  have ho := fun (d px : Nat) (args : List AV) (m : Mem) (hl : args.length ≤ Try.f138.ntmps) => pvCall_own (P := Try.prog) (K := K0) (D := Dm) (L := 100000) (d := d) (px := px) (args := args) (m := m) (f := 138) (fn := Try.f138) rfl Try.func138 rfl (by decide) rfl rfl hl
  have ho1 := fun (d px : Nat) (args : List AV) (m : Mem) (hl : args.length ≤ Try.f167.ntmps) => pvCall_own (P := Try.prog) (K := K0) (D := Dm) (L := 100000) (d := d) (px := px) (args := args) (m := m) (f := 167) (fn := Try.f167) rfl Try.func167 rfl (by decide) rfl rfl hl
  unfold runF
  rw [pvCall_own (fn := Try.f34) rfl Try.func34 rfl (by decide) rfl rfl (by simp)]
  simp (config := { maxSteps := 3000000 }) -implicitDefEqProofs [ha, he, hd, hq, hm, ho, ho1, loopK_pos, splice, IntKind.wrap, IntKind.signed, IntKind.bits, Nat.testBit_eq_decide_div_mod_eq, List.replicate_succ, eqV, vEq]
def fKnown30 : Fun
  | [] => some (.v (.bool true), [])
  | _ => none
theorem known30_pure : Pure Try.prog 34 fKnown30 := (runF_pure k0_ok follows_mixed dm_ok 100000 6 34).weaken fun args r h => by
  unfold fKnown30 at h
  split at h
  · rw [← h]; exact known30_run
  · cases h
end Go.Proofs.Ytmdafjegddnecaa
