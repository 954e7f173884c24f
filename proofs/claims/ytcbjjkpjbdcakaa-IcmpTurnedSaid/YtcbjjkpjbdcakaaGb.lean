/- Chains of headers of IPv6 as functions of values: the program's (walked) and the reference's. -/
import Derived.Test.YtcbjjkpjbdcakaaGa
import Derived.Test.YtcbjjkpjbdcakaaCh
namespace Go.Proofs.Ytcbjjkpjbdcakaa
open Go.Pm Go.Wb
set_option linter.unusedVariables false
set_option linter.unusedSimpArgs false
set_option maxRecDepth 1000000

def chainV (n : Int) (zs : List Int) : AV × List (List AV) := (.tup [.v (.int .u8 (chainF 9 n zs 0 0).1), .v (.int .i64 (chainF 9 n zs 0 0).2.1), .v (.int .i64 (chainF 9 n zs 0 0).2.2)], [])
def fChain : Fun
  | [.v (.int .u8 n), .sl nn b len cap] => (asB8 b).bind fun zs => if zs.length = len ∧ len ≤ 1099511627776 ∧ bytesB zs = true ∧ 0 ≤ n ∧ n ≤ 255 then some (chainV n zs) else none
  | _ => none
theorem chain_pure : Pure Try.prog 41 fChain := pure_plain fun w args vs r bs ra hr => by
  unfold fChain at hr
  split at hr
  · rename_i n nn b len cap
    obtain ⟨zs, h3, hr⟩ := Option.bind_eq_some_iff.1 hr
    split at hr
    case isFalse => cases hr
    rename_i hh
    obtain ⟨hz, hl, bz, p0, p1⟩ := hh
    cases hr
    obtain rfl := asB8_eq h3
    obtain ⟨x0, l0, e0, r0, ra⟩ := ra.inv_cons
    obtain ⟨x1, l1, rfl, r1, ra⟩ := ra.inv_cons
    obtain rfl := ra.inv_nil
    obtain ⟨a, cp, rfl, hrow⟩ := row_of r1 hz (bytesB_iff.1 bz)
    obtain rfl := r0.inv_v.1
    obtain rfl : vs = #[.int .u8 n, .slice a len cp] := by
      cases vs; simp at e0; rw [e0]
    refine ⟨rfl, (chain_any n a len cp zs w _ _ _ p0 p1 hrow hl rfl).mono ?_⟩
    rintro e w' ⟨rfl, hb⟩
    exact ⟨_, rfl, hb, .mkTup (.cons .v (.cons .v (.cons .v (.nil _))))⟩
  · cases hr

/-- What a chain's answer may be. -/
theorem chain_out : ∀ (f : Nat) (n : Int) (l : List Int) (j : Nat) (k : Int), 0 ≤ n → n ≤ 255 → bytesB l = true → j ≤ 8 → 8 < f + j → 0 ≤ k → 
    ((chainF f n l j k).2.2 = 0 ∧ k ≤ (chainF f n l j k).2.1 ∧ (chainF f n l j k).2.1 ≤ k + l.length ∧ 0 ≤ (chainF f n l j k).1 ∧ (chainF f n l j k).1 ≤ 255) ∨ (¬ (chainF f n l j k).2.2 = 0 ∧ (chainF f n l j k).1 = 0 ∧ (chainF f n l j k).2.1 = 0) := by
  intro f
  induction f with
  | zero => 
    intro n l j k n0 n1 hb hj hf hk
    omega
  | succ f ih =>
    intro n l j k n0 n1 hb hj hf hk
    unfold chainF
    split
    · exact .inl ⟨rfl, Int.le_refl _, by simp only; omega, n0, n1⟩
    split
    · exact .inr ⟨by simp, rfl, rfl⟩
    split
    · exact .inr ⟨by simp, rfl, rfl⟩
    split
    · exact .inr ⟨by simp, rfl, rfl⟩
    rename_i h8
    split
    · exact .inr ⟨by simp, rfl, rfl⟩
    rename_i hl
    have g1 := gb_range hb 1
    have g0 := gb_range hb 0
    have hh : 0 ≤ hlen n l := by unfold hlen; unfold gb at g1; split <;> omega
    split
    · have := ih (l.getD 0 0) (l.drop (hlen n l).toNat) (j + 1) (k + hlen n l) g0.1 g0.2 (bytesB_drop hb _) (by omega) (by omega) (by omega)
      rw [List.length_drop] at this
      rcases this with ⟨h1, h2, h3, h4⟩ | h
      · exact .inl ⟨h1, by omega, by omega, h4⟩
      · exact .inr h
    · rename_i he
      exact .inr ⟨he, rfl, rfl⟩

set_option maxHeartbeats 4000000 in
theorem isext_run (n : Int) : runF Try.prog K0 Dm 100000 1 70 [.v (.int .u8 n)] = some (.v (.bool (decide (isExt n))), []) := by
  unfold runF
  rw [pvCall_own (fn := Try.f70) rfl Try.func70 rfl (by decide) rfl rfl (by simp)]
  by_cases h0 : n = 0
  · subst h0; simp -implicitDefEqProofs [isExt]
  by_cases h1 : n = 43
  · subst h1; simp -implicitDefEqProofs [isExt]
  by_cases h2 : n = 44
  · subst h2; simp -implicitDefEqProofs [isExt]
  by_cases h3 : n = 60
  · subst h3; simp -implicitDefEqProofs [isExt]
  have b0 : (n == 0) = false := by simp [h0]
  have b1 : (n == 43) = false := by simp [h1]
  have b2 : (n == 44) = false := by simp [h2]
  have b3 : (n == 60) = false := by simp [h3]
  simp -implicitDefEqProofs [isExt, h0, h1, h2, h3, b0, b1, b2, b3]
def oneV (n : Int) (first : Bool) (l : List Int) : Int × Int :=
  if n = 0 ∧ first = false then (0, 5) else if l.length < 8 then (0, 4) else if (l.length : Int) < hlen n l then (0, 4) else if herr2 n l = 0 then (hlen n l, 0) else (0, herr2 n l)
theorem hlen44 (l : List Int) : hlen 44 l = 8 := rfl
theorem hlenN {n : Int} (l : List Int) (h : n ≠ 44) : hlen n l = 8 + 8 * gb l 1 := by unfold hlen gb; rw [if_neg h]; omega
set_option maxHeartbeats 16000000 in
theorem one_run (n : Int) (first : Bool) (zs : List Int) (nn : Bool) (cap : Option Nat) (hz : bytesB zs = true) (hl : zs.length ≤ 1099511627776) (hn : isExt n) :
    runF Try.prog K0 Dm 100000 1 71 [.v (.int .u8 n), .v (.bool first), .sl nn (B8 zs) zs.length cap] = some (.tup [.v (.int .i64 (oneV n first zs).1), .v (.int .i64 (oneV n first zs).2)], []) := by
  have g1 := gb_range hz 1
  have g2 := gb_range hz 2
  have g3 := gb_range hz 3
  unfold runF
  rw [pvCall_own (fn := Try.f71) rfl Try.func71 rfl (by decide) rfl rfl (by simp)]
  by_cases h8 : zs.length < 8
  · have h8i : (zs.length : Int) < 8 := by omega
    rcases hn with rfl | rfl | rfl | rfl <;> cases first <;> simp -implicitDefEqProofs [oneV, h8, h8i]
  have h8i : ¬ (zs.length : Int) < 8 := by omega
  have a1 := B8_at0 zs 1 (by omega)
  have a2 := B8_at0 zs 2 (by omega)
  have a3 := B8_at0 zs 3 (by omega)
  have i1 : (1 : Int) < (zs.length : Int) := by omega
  have i2 : (2 : Int) < (zs.length : Int) := by omega
  have i3 : (3 : Int) < (zs.length : Int) := by omega
  have n1 : 1 < zs.length := by omega
  have n2 : 2 < zs.length := by omega
  have n3 : 3 < zs.length := by omega
  have n1' : 1 ≤ zs.length := by omega
  have n2' : 2 ≤ zs.length := by omega
  have n3' : 3 ≤ zs.length := by omega
  have w1 : IntKind.i64.wrap (8 * gb zs 1) = 8 * gb zs 1 := wrap64_id (by omega) (by omega)
  have w2 : IntKind.i64.wrap (8 + 8 * gb zs 1) = 8 + 8 * gb zs 1 := wrap64_id (by omega) (by omega)
  have w0 : IntKind.i64.wrap (gb zs 1) = gb zs 1 := wrap64_id (by omega) (by omega)
  have w3 : IntKind.i64.wrap (gb zs 2) = gb zs 2 := wrap64_id (by omega) (by omega)
  have w4 : IntKind.i64.wrap (gb zs 3) = gb zs 3 := wrap64_id (by omega) (by omega)
  have w5 : IntKind.i64.wrap (gb zs 2 * 256) = gb zs 2 * 256 := wrap64_id (by omega) (by omega)
  have w6 : IntKind.i64.wrap (gb zs 2 * 256 + gb zs 3) = gb zs 2 * 256 + gb zs 3 := wrap64_id (by omega) (by omega)
  have d8 : ¬ (zs.length : Int) < 8 := h8i
  by_cases h44 : n = 44
  · subst h44
    have t0 : (gb zs 2 * 256 + gb zs 3).tdiv 8 = (gb zs 2 * 256 + gb zs 3) / 8 := Int.tdiv_eq_ediv_of_nonneg (by omega)
    have t1 : (gb zs 2 * 256 + gb zs 3).tmod 2 = (gb zs 2 * 256 + gb zs 3) % 2 := Int.tmod_eq_emod_of_nonneg (by omega)
    have t2 : IntKind.i64.wrap ((gb zs 2 * 256 + gb zs 3) / 8) = (gb zs 2 * 256 + gb zs 3) / 8 := wrap64_id (by omega) (by omega)
    by_cases hd : (gb zs 2 * 256 + gb zs 3) / 8 = 0
    · have hdn : ((gb zs 2 * 256 + gb zs 3) / 8 != 0) = false := by simp [hd]
      by_cases hm : (gb zs 2 * 256 + gb zs 3) % 2 = 1
      · have hk : herr2 44 zs = 11 := by unfold herr2 k4e; unfold gb at *; rw [if_neg (by omega), if_pos rfl, if_pos (by omega)]
        simp -implicitDefEqProofs [oneV, hlen44, h8, h8i, a1, a2, a3, i1, i2, i3, n1, n2, n3, n1', n2', n3', w0, w1, w2, w3, w4, w5, w6, t0, t1, t2, hd, hdn, hm, hk]
      · have hm0 : (gb zs 2 * 256 + gb zs 3) % 2 = 0 := by omega
        have hk : herr2 44 zs = 0 := by unfold herr2 k4e; unfold gb at *; rw [if_neg (by omega), if_pos rfl, if_neg (by omega)]
        simp -implicitDefEqProofs [oneV, hlen44, h8, h8i, a1, a2, a3, i1, i2, i3, n1, n2, n3, n1', n2', n3', w0, w1, w2, w3, w4, w5, w6, t0, t1, t2, hd, hdn, hm0, hk]
    · have hdn : ((gb zs 2 * 256 + gb zs 3) / 8 != 0) = true := by simp [hd]
      have hde : ((gb zs 2 * 256 + gb zs 3) / 8 == 0) = false := by simp [hd]
      have hk : herr2 44 zs = 11 := by unfold herr2 k4e; unfold gb at *; rw [if_neg (by omega), if_pos rfl, if_pos (by omega)]
      simp -implicitDefEqProofs [oneV, hlen44, h8, h8i, a1, a2, a3, i1, i2, i3, n1, n2, n3, n1', n2', n3', w0, w1, w2, w3, w4, w5, w6, t0, t1, t2, hd, hdn, hde, hk]
  have hlN := hlenN zs h44
  by_cases hL : (zs.length : Int) < 8 + 8 * gb zs 1
  · rcases hn with rfl | rfl | rfl | rfl
    · cases first <;> simp -implicitDefEqProofs [oneV, hlN, h8, h8i, a1, i1, n1, n1', w0, w1, w2, hL]
    · simp -implicitDefEqProofs [oneV, hlN, h8, h8i, a1, i1, n1, n1', w0, w1, w2, hL]
    · exact absurd rfl h44
    · simp -implicitDefEqProofs [oneV, hlN, h8, h8i, a1, i1, n1, n1', w0, w1, w2, hL]
  · rcases hn with rfl | rfl | rfl | rfl
    · have hk : herr2 0 zs = 0 := rfl
      cases first <;> simp -implicitDefEqProofs [oneV, hlN, h8, h8i, a1, a2, a3, i1, i2, i3, n1, n2, n3, n1', n2', n3', w0, w1, w2, w3, w4, w5, w6, hL, hk]
    · by_cases h3 : gb zs 3 = 0
      · have hk : herr2 43 zs = 0 := by unfold herr2 k3e; unfold gb at *; rw [if_pos rfl, if_neg (by omega)]
        simp -implicitDefEqProofs [oneV, hlN, h8, h8i, a1, a2, a3, i1, i2, i3, n1, n2, n3, n1', n2', n3', w0, w1, w2, w3, w4, w5, w6, hL, hk, h3]
      · have hk : herr2 43 zs = 12 := by unfold herr2 k3e; unfold gb at *; rw [if_pos rfl, if_pos (by omega)]
        have h3n : (gb zs 3 != 0) = true := by simp [h3]
        simp -implicitDefEqProofs [oneV, hlN, h8, h8i, a1, a2, a3, i1, i2, i3, n1, n2, n3, n1', n2', n3', w0, w1, w2, w3, w4, w5, w6, hL, hk, h3, h3n]
    · exact absurd rfl h44
    · have hk : herr2 60 zs = 0 := rfl
      simp -implicitDefEqProofs [oneV, hlN, h8, h8i, a1, a2, a3, i1, i2, i3, n1, n2, n3, n1', n2', n3', w0, w1, w2, w3, w4, w5, w6, hL, hk]
def fIsExt : Fun
  | [.v (.int .u8 n)] => some (.v (.bool (decide (isExt n))), [])
  | _ => none
theorem isext_pure : Pure Try.prog 70 fIsExt := (runF_pure k0_ok follows_mixed dm_ok 100000 1 70).weaken fun args r h => by
  unfold fIsExt at h
  split at h
  · rw [← h]; exact isext_run _
  · cases h
def fOne : Fun
  | [.v (.int .u8 n), .v (.bool first), .sl nn b len cap] => (asB8 b).bind fun zs => if zs.length = len ∧ len ≤ 1099511627776 ∧ bytesB zs = true ∧ isExt n then some (.tup [.v (.int .i64 (oneV n first zs).1), .v (.int .i64 (oneV n first zs).2)], []) else none
  | _ => none
theorem one_pure : Pure Try.prog 71 fOne := (runF_pure k0_ok follows_mixed dm_ok 100000 1 71).weaken fun args r h => by
  unfold fOne at h
  split at h
  · rename_i n first nn b len cap
    obtain ⟨zs, hz, he⟩ := Option.bind_eq_some_iff.1 h
    clear h
    split at he
    case isFalse => cases he
    rename_i hh
    obtain ⟨rfl, h1, h2, h3⟩ := hh
    obtain rfl := asB8_eq hz
    rw [← he]
    exact one_run n first zs nn cap h2 h1 h3
  · cases h
def KA : Nat → Option Con
  | 70 => some fIsExt
  | 71 => some fOne
  | _ => none
theorem ka_ok : KOk Try.prog KA := fun f F h => by
  unfold KA at h
  split at h
  · cases h; exact ⟨isext_pure, _, Try.func70, rfl, by decide⟩
  · cases h; exact ⟨one_pure, _, Try.func71, rfl, by decide⟩
  · cases h
theorem ca_ext {D : FuncId → Nat → List Nat} {L d px : Nat} {args : List AV} {m : Mem} : pvCall Try.prog KA D L d px 70 args m = callBy fIsExt m px args := pvCall_by rfl
theorem ca_one {D : FuncId → Nat → List Nat} {L d px : Nat} {args : List AV} {m : Mem} : pvCall Try.prog KA D L d px 71 args m = callBy fOne m px args := pvCall_by rfl
theorem ka_ext : KA 70 = some (.pure fIsExt) := rfl
theorem ka_one : KA 71 = some (.pure fOne) := rfl
attribute [simp] ca_ext ca_one ka_ext ka_one
theorem one_chain {f j : Nat} {n k : Int} {l : List Int} (hb : bytesB l = true) (hn : isExt n) (hj : j < 8) : 
    (¬ (oneV n (decide (j = 0)) l).2 = 0 ∧ chainF (f + 1) n l j k = (0, 0, (oneV n (decide (j = 0)) l).2)) ∨ ((oneV n (decide (j = 0)) l) = (hlen n l, 0) ∧ 8 ≤ l.length ∧ 0 ≤ hlen n l ∧ hlen n l ≤ l.length ∧ chainF (f + 1) n l j k = chainF f (gb l 0) (l.drop (hlen n l).toNat) (j + 1) (k + hlen n l)) := by
  have g1 := gb_range hb 1
  have hh : 0 ≤ hlen n l := by unfold hlen; unfold gb at g1; split <;> omega
  unfold oneV
  rw [chainF]
  rw [if_neg (show ¬ ¬ isExt n from fun h => h hn), if_neg (show ¬ 8 ≤ j by omega)]
  by_cases h1 : n = 0 ∧ 1 ≤ j
  · rw [if_pos (show n = 0 ∧ decide (j = 0) = false from ⟨h1.1, by simp; omega⟩), if_pos h1]
    exact .inl ⟨by simp, rfl⟩
  rw [if_neg (show ¬ (n = 0 ∧ decide (j = 0) = false) from fun h => h1 ⟨h.1, by have := h.2; simp at this; omega⟩), if_neg h1]
  by_cases h2 : l.length < 8
  · rw [if_pos h2, if_pos h2]; exact .inl ⟨by simp, rfl⟩
  rw [if_neg h2, if_neg h2]
  by_cases h3 : (l.length : Int) < hlen n l
  · rw [if_pos h3, if_pos h3]; exact .inl ⟨by simp, rfl⟩
  rw [if_neg h3, if_neg h3]
  by_cases h4 : herr2 n l = 0
  · rw [if_pos h4, if_pos h4]; exact .inr ⟨rfl, by omega, hh, by omega, rfl⟩
  · rw [if_neg h4, if_neg h4]; exact .inl ⟨h4, rfl⟩
set_option maxHeartbeats 16000000 in
theorem rchain_run (n0 : Int) (zs : List Int) (nn : Bool) (cap : Option Nat) (hz : bytesB zs = true) (hl : zs.length ≤ 1099511627776) (hn0 : 0 ≤ n0) (hn1 : n0 ≤ 255) :
    runF Try.prog KA Dm 100000 1 42 [.v (.int .u8 n0), .sl nn (B8 zs) zs.length cap] = some (chainV n0 zs) := by
  unfold runF chainV
  obtain ⟨⟨r1, r2, r3⟩, hr⟩ : ∃ r, chainF 9 n0 zs 0 0 = r := ⟨_, rfl⟩
  rw [hr]
  rw [pvCall_own (fn := Try.f42) rfl Try.func42 rfl (by decide) rfl rfl (by simp)]
  simp -implicitDefEqProofs []
  generalize hL : loopK _ _ _ _ _ _ _ _ _ ⟨_, _⟩ = R
  obtain ⟨e, t', rfl, hk, hQ⟩ := loop_met4 hL [0, 4, 5, 6, 7, 8, 9, 10, 11, 12, 13, 14, 15, 16, 17, 18, 19, 20, 21, 22, 23, 24, 25, 26, 27, 28, 29, 30, 31, 32, 33, 34, 35, 36] 
    (fun j t => ∃ (n : Int) (k : Nat), t 0 = .v (.int .u8 n) ∧ t 7 = .v (.int .i64 (k : Int)) ∧ t 8 = .v (.int .i64 (j : Int)) ∧ 0 ≤ n ∧ n ≤ 255 ∧ k ≤ zs.length ∧ chainF (9 - j) n (zs.drop k) j k = (r1, r2, r3))
    (fun e t => (e = .exit 0 ∧ t 0 = .v (.int .u8 r1) ∧ t 7 = .v (.int .i64 r2) ∧ r3 = 0) ∨ (e = .ret ∧ t 4 = .v (.int .u8 r1) ∧ t 5 = .v (.int .i64 r2) ∧ t 6 = .v (.int .i64 r3))) 8 (by omega) ⟨n0, 0, by simp, by simp, by simp, hn0, hn1, by omega, by simpa using hr⟩
    (fun j t hj hk ⟨n, k, e0, e7, e8, a0, a1, hkl, hc⟩ => by
      have e1 := hk 1 (by decide)
      simp at e1
      by_cases hx : isExt n
      · by_cases h8 : j = 8
        · subst h8
          left
          have hr' : chainF 1 n (zs.drop k) 8 k = (0, 0, 3) := by unfold chainF; rw [if_neg (by simpa using hx), if_pos (by omega)]
          rw [show 9 - 8 = 1 from rfl, hr'] at hc
          simp only [Prod.mk.injEq] at hc
          obtain ⟨rfl, rfl, rfl⟩ := hc
          refine ⟨.ret, ?t0, by simp, ?a0, ?b0, ?c0⟩
          case a0 =>
            simp -implicitDefEqProofs [e0, e1, e7, e8, fIsExt, hx]
            exact rfl
          case b0 =>
            repeat' refine Kept.upd ?_ (by decide) _
            exact hk
          case c0 => right; simp
        · have h8i : ¬ (j : Int) = 8 := by omega
          have h8n : ((j : Int) == 8) = false := by simp; omega
          have k1 : (k : Int) ≤ (zs.length : Int) := by omega
          have kd : (zs.drop k).length = zs.length - k := by simp
          have k2 : zs.length - k ≤ 1099511627776 := by omega
          have hzk := bytesB_drop hz k
          have hj0 : ((j : Int) == 0) = decide (j = 0) := by
            by_cases h : j = 0
            · subst h; rfl
            · have : ¬ (j : Int) = 0 := by omega
              simp [h]
          have ht0 : List.take (zs.length - k) (List.drop k zs) = List.drop k zs := List.take_of_length_le (by simp)
          have hj1 : decide ((j : Int) = 0) = decide (j = 0) := by simp
          rcases one_chain (f := 8 - j) (n := n) (k := k) (j := j) hzk hx (by omega) with ⟨q1, q2⟩ | ⟨q1, q2, q3, q4, q5⟩
          · left
            rw [show 9 - j = 8 - j + 1 by omega, q2] at hc
            simp only [Prod.mk.injEq] at hc
            obtain ⟨rfl, rfl, rfl⟩ := hc
            refine ⟨.ret, ?t1, by simp, ?a1, ?b1, ?c1⟩
            case a1 =>
              simp -implicitDefEqProofs [e0, e1, e7, e8, fIsExt, fOne, hx, h8i, h8n, k1, kd, k2, hzk, hj0, hj1, hkl, q1, ht0, splice]
              exact rfl
            case b1 =>
              repeat' refine Kept.upd ?_ (by decide) _
              exact hk
            case c1 => right; simp
          · right
            rw [kd] at q2 q4
            have w1 : IntKind.i64.wrap ((k : Int) + hlen n (zs.drop k)) = ((k + (hlen n (zs.drop k)).toNat : Nat) : Int) := by rw [wrap64_id (by omega) (by omega)]; omega
            have w2 : IntKind.i64.wrap ((j : Int) + 1) = ((j + 1 : Nat) : Int) := by rw [wrap64_id (by omega) (by omega)]; omega
            have k3 : (k : Int) < (zs.length : Int) := by omega
            have k4 : k < zs.length := by omega
            have k5 := B8_at0 zs k k4
            have g0 := gb_range hz k
            refine ⟨by omega, ?t2, ?a2, ?b2, ?c2⟩
            case a2 =>
              simp -implicitDefEqProofs [e0, e1, e7, e8, fIsExt, fOne, hx, h8i, h8n, k1, kd, k2, hzk, hj0, hj1, hkl, q1, ht0, w1, w2, k3, k4, k5, splice]
              exact rfl
            case b2 =>
              repeat' refine Kept.upd ?_ (by decide) _
              exact hk
            case c2 =>
              refine ⟨gb zs k, k + (hlen n (zs.drop k)).toNat, by simp, by simp, by simp, g0.1, g0.2, by omega, ?_⟩
              rw [show 9 - j = 8 - j + 1 by omega, q5] at hc
              have e1 : gb (zs.drop k) 0 = gb zs k := by unfold gb; rw [List.getD_eq_getElem?_getD, List.getElem?_drop, List.getD_eq_getElem?_getD]; rfl
              rw [List.drop_drop, e1] at hc
              have e2 : (k : Int) + hlen n (zs.drop k) = ((k + (hlen n (zs.drop k)).toNat : Nat) : Int) := by omega
              rw [e2] at hc
              rw [show 9 - (j + 1) = 8 - j by omega]
              exact hc
      · left
        rw [show 9 - j = 8 - j + 1 by omega] at hc
        unfold chainF at hc
        rw [if_pos hx] at hc
        simp only [Prod.mk.injEq] at hc
        obtain ⟨rfl, rfl, rfl⟩ := hc
        refine ⟨.exit 0, ?t3, by simp, ?a3, ?b3, ?c3⟩
        case a3 =>
          simp -implicitDefEqProofs [e0, e1, e7, e8, fIsExt, hx]
          exact rfl
        case b3 =>
          repeat' refine Kept.upd ?_ (by decide) _
          exact hk
        case c3 => left; simp [e0, e7])
  rcases hQ with ⟨rfl, h0, h7, rfl⟩ | ⟨rfl, h4, h5, h6⟩
  · simp -implicitDefEqProofs [h0, h7]
  · simp -implicitDefEqProofs [h4, h5, h6]
def fRChain : Fun := fChain
theorem rchain_pure : Pure Try.prog 42 fChain := (runF_pure ka_ok follows_mixed dm_ok 100000 1 42).weaken fun args r h => by
  unfold fChain at h
  split at h
  · rename_i n nn b len cap
    obtain ⟨zs, hz, he⟩ := Option.bind_eq_some_iff.1 h
    clear h
    split at he
    case isFalse => cases he
    rename_i hh
    obtain ⟨rfl, h1, h2, h3, h4⟩ := hh
    obtain rfl := asB8_eq hz
    rw [← he]
    exact rchain_run n zs nn cap h2 h1 h3 h4
  · cases h
end Go.Proofs.Ytcbjjkpjbdcakaa
