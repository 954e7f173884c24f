import Derived.Test.YtmdafjegddnecaaMx
import Derived.Test.YtmdafjegddnecaaCh
/- Chains of headers of IPv6 as functions of values: the program's (walked) and the reference's. -/
namespace Go.Proofs.Ytmdafjegddnecaa
open Go.Pm Go.Wb
set_option linter.unusedVariables false
set_option linter.unusedSimpArgs false
set_option maxRecDepth 1000000

def chainV (n : Int) (zs : List Int) : AV × List (List AV) := (.tup [.v (.int .u8 (chainF 9 n zs 0 0).1), .v (.int .i64 (chainF 9 n zs 0 0).2.1), .v (.int .i64 (chainF 9 n zs 0 0).2.2)], [])
def fChain : Fun
  | [.v (.int .u8 n), .sl nn b len cap] => (asB8 b).bind fun zs => if zs.length = len ∧ len ≤ 1099511627776 ∧ bytesB zs = true ∧ 0 ≤ n ∧ n ≤ 255 then some (chainV n zs) else none
  | _ => none
theorem chain_pure : Pure Try.prog 65 fChain := pure_plain fun w args vs r bs ra hr => by
  unfold fChain at hr
  split at hr
  · rename_i n nn b len cap
    obtain ⟨zs, h3, hr⟩ := Option.bind_eq_some_iff.1 hr
    split at hr
    case isFalse => cases hr
    rename_i hh
    obtain ⟨hz, hl, bz, p0, p1⟩ := hh
    cases hr
    obtain rfl := asB8_eq h3
    obtain ⟨x0, l0, e0, r0, ra⟩ := ra.inv_cons
    obtain ⟨x1, l1, rfl, r1, ra⟩ := ra.inv_cons
    obtain rfl := ra.inv_nil
    obtain ⟨a, cp, rfl, hrow⟩ := row_of r1 hz (bytesB_iff.1 bz)
    obtain rfl := r0.inv_v.1
    obtain rfl : vs = #[.int .u8 n, .slice a len cp] := by
      cases vs; simp at e0; rw [e0]
    refine ⟨rfl, (chain_any n a len cp zs w _ _ _ p0 p1 hrow hl rfl).mono ?_⟩
    rintro e w' ⟨rfl, hb⟩
    exact ⟨_, rfl, hb, .mkTup (.cons .v (.cons .v (.cons .v (.nil _))))⟩
  · cases hr

/-- What a chain's answer may be. -/
theorem chain_out : ∀ (f : Nat) (n : Int) (l : List Int) (j : Nat) (k : Int), 0 ≤ n → n ≤ 255 → bytesB l = true → j ≤ 8 → 8 < f + j → 0 ≤ k → 
    ((chainF f n l j k).2.2 = 0 ∧ k ≤ (chainF f n l j k).2.1 ∧ (chainF f n l j k).2.1 ≤ k + l.length ∧ 0 ≤ (chainF f n l j k).1 ∧ (chainF f n l j k).1 ≤ 255) ∨ (¬ (chainF f n l j k).2.2 = 0 ∧ (chainF f n l j k).1 = 0 ∧ (chainF f n l j k).2.1 = 0) := by
  intro f
  induction f with
  | zero => 
    intro n l j k n0 n1 hb hj hf hk
    omega
  | succ f ih =>
    intro n l j k n0 n1 hb hj hf hk
    unfold chainF
    split
    · exact .inl ⟨rfl, Int.le_refl _, by simp only; omega, n0, n1⟩
    split
    · exact .inr ⟨by simp, rfl, rfl⟩
    split
    · exact .inr ⟨by simp, rfl, rfl⟩
    split
    · exact .inr ⟨by simp, rfl, rfl⟩
    rename_i h8
    split
    · exact .inr ⟨by simp, rfl, rfl⟩
    rename_i hl
    have g1 := gb_range hb 1
    have g0 := gb_range hb 0
    have hh : 0 ≤ hlen n l := by unfold hlen; unfold gb at g1; split <;> omega
    split
    · have := ih (l.getD 0 0) (l.drop (hlen n l).toNat) (j + 1) (k + hlen n l) g0.1 g0.2 (bytesB_drop hb _) (by omega) (by omega) (by omega)
      rw [List.length_drop] at this
      rcases this with ⟨h1, h2, h3, h4⟩ | h
      · exact .inl ⟨h1, by omega, by omega, h4⟩
      · exact .inr h
    · rename_i he
      exact .inr ⟨he, rfl, rfl⟩

set_option maxHeartbeats 4000000 in
theorem isext_run (n : Int) : runF Try.prog K0 Dm 100000 1 176 [.v (.int .u8 n)] = some (.v (.bool (decide (isExt n))), []) := by
  unfold runF
  rw [pvCall_own (fn := Try.f176) rfl Try.func176 rfl (by decide) rfl rfl (by simp)]
  by_cases h0 : n = 0
  · subst h0; simp -implicitDefEqProofs [isExt]
  by_cases h1 : n = 43
  · subst h1; simp -implicitDefEqProofs [isExt]
  by_cases h2 : n = 44
  · subst h2; simp -implicitDefEqProofs [isExt]
  by_cases h3 : n = 60
  · subst h3; simp -implicitDefEqProofs [isExt]
  have b0 : (n == 0) = false := by simp [h0]
  have b1 : (n == 43) = false := by simp [h1]
  have b2 : (n == 44) = false := by simp [h2]
  have b3 : (n == 60) = false := by simp [h3]
  simp -implicitDefEqProofs [isExt, h0, h1, h2, h3, b0, b1, b2, b3]
def oneV (n : Int) (first : Bool) (l : List Int) : Int × Int :=
  if n = 0 ∧ first = false then (0, 5) else if l.length < 8 then (0, 4) else if (l.length : Int) < hlen n l then (0, 4) else if herr2 n l = 0 then (hlen n l, 0) else (0, herr2 n l)
theorem hlen44 (l : List Int) : hlen 44 l = 8 := rfl
theorem hlenN {n : Int} (l : List Int) (h : n ≠ 44) : hlen n l = 8 + 8 * gb l 1 := by unfold hlen gb; rw [if_neg h]; omega
set_option maxHeartbeats 16000000 in
theorem one_run (n : Int) (first : Bool) (zs : List Int) (nn : Bool) (cap : Option Nat) (hz : bytesB zs = true) (hl : zs.length ≤ 1099511627776) (hn : isExt n) :
    runF Try.prog K0 Dm 100000 1 177 [.v (.int .u8 n), .v (.bool first), .sl nn (B8 zs) zs.length cap] = some (.tup [.v (.int .i64 (oneV n first zs).1), .v (.int .i64 (oneV n first zs).2)], []) := by
  have g1 := gb_range hz 1
  have g2 := gb_range hz 2
  have g3 := gb_range hz 3
  unfold runF
  rw [pvCall_own (fn := Try.f177) rfl Try.func177 rfl (by decide) rfl rfl (by simp)]
  by_cases h8 : zs.length < 8
  · have h8i : (zs.length : Int) < 8 := by omega
    rcases hn with rfl | rfl | rfl | rfl <;> cases first <;> simp -implicitDefEqProofs [oneV, h8, h8i]
  have h8i : ¬ (zs.length : Int) < 8 := by omega
  have a1 := B8_at0 zs 1 (by omega)
  have a2 := B8_at0 zs 2 (by omega)
  have a3 := B8_at0 zs 3 (by omega)
  have i1 : (1 : Int) < (zs.length : Int) := by omega
  have i2 : (2 : Int) < (zs.length : Int) := by omega
  have i3 : (3 : Int) < (zs.length : Int) := by omega
  have n1 : 1 < zs.length := by omega
  have n2 : 2 < zs.length := by omega
  have n3 : 3 < zs.length := by omega
  have n1' : 1 ≤ zs.length := by omega
  have n2' : 2 ≤ zs.length := by omega
  have n3' : 3 ≤ zs.length := by omega
  have w1 : IntKind.i64.wrap (8 * gb zs 1) = 8 * gb zs 1 := wrap64_id (by omega) (by omega)
  have w2 : IntKind.i64.wrap (8 + 8 * gb zs 1) = 8 + 8 * gb zs 1 := wrap64_id (by omega) (by omega)
  have w0 : IntKind.i64.wrap (gb zs 1) = gb zs 1 := wrap64_id (by omega) (by omega)
  have w3 : IntKind.i64.wrap (gb zs 2) = gb zs 2 := wrap64_id (by omega) (by omega)
  have w4 : IntKind.i64.wrap (gb zs 3) = gb zs 3 := wrap64_id (by omega) (by omega)
  have w5 : IntKind.i64.wrap (gb zs 2 * 256) = gb zs 2 * 256 := wrap64_id (by omega) (by omega)
  have w6 : IntKind.i64.wrap (gb zs 2 * 256 + gb zs 3) = gb zs 2 * 256 + gb zs 3 := wrap64_id (by omega) (by omega)
  have d8 : ¬ (zs.length : Int) < 8 := h8i
  by_cases h44 : n = 44
  · subst h44
    have t0 : (gb zs 2 * 256 + gb zs 3).tdiv 8 = (gb zs 2 * 256 + gb zs 3) / 8 := Int.tdiv_eq_ediv_of_nonneg (by omega)
    have t1 : (gb zs 2 * 256 + gb zs 3).tmod 2 = (gb zs 2 * 256 + gb zs 3) % 2 := Int.tmod_eq_emod_of_nonneg (by omega)
    have t2 : IntKind.i64.wrap ((gb zs 2 * 256 + gb zs 3) / 8) = (gb zs 2 * 256 + gb zs 3) / 8 := wrap64_id (by omega) (by omega)
    by_cases hd : (gb zs 2 * 256 + gb zs 3) / 8 = 0
    · have hdn : ((gb zs 2 * 256 + gb zs 3) / 8 != 0) = false := by simp [hd]
      by_cases hm : (gb zs 2 * 256 + gb zs 3) % 2 = 1
      · have hk : herr2 44 zs = 11 := by unfold herr2 k4e; unfold gb at *; rw [if_neg (by omega), if_pos rfl, if_pos (by omega)]
        simp -implicitDefEqProofs [oneV, hlen44, h8, h8i, a1, a2, a3, i1, i2, i3, n1, n2, n3, n1', n2', n3', w0, w1, w2, w3, w4, w5, w6, t0, t1, t2, hd, hdn, hm, hk]
      · have hm0 : (gb zs 2 * 256 + gb zs 3) % 2 = 0 := by omega
        have hk : herr2 44 zs = 0 := by unfold herr2 k4e; unfold gb at *; rw [if_neg (by omega), if_pos rfl, if_neg (by omega)]
        simp -implicitDefEqProofs [oneV, hlen44, h8, h8i, a1, a2, a3, i1, i2, i3, n1, n2, n3, n1', n2', n3', w0, w1, w2, w3, w4, w5, w6, t0, t1, t2, hd, hdn, hm0, hk]
    · have hdn : ((gb zs 2 * 256 + gb zs 3) / 8 != 0) = true := by simp [hd]
      have hde : ((gb zs 2 * 256 + gb zs 3) / 8 == 0) = false := by simp [hd]
      have hk : herr2 44 zs = 11 := by unfold herr2 k4e; unfold gb at *; rw [if_neg (by omega), if_pos rfl, if_pos (by omega)]
      simp -implicitDefEqProofs [oneV, hlen44, h8, h8i, a1, a2, a3, i1, i2, i3, n1, n2, n3, n1', n2', n3', w0, w1, w2, w3, w4, w5, w6, t0, t1, t2, hd, hdn, hde, hk]
  have hlN := hlenN zs h44
  by_cases hL : (zs.length : Int) < 8 + 8 * gb zs 1
  · rcases hn with rfl | rfl | rfl | rfl
    · cases first <;> simp -implicitDefEqProofs [oneV, hlN, h8, h8i, a1, i1, n1, n1', w0, w1, w2, hL]
    · simp -implicitDefEqProofs [oneV, hlN, h8, h8i, a1, i1, n1, n1', w0, w1, w2, hL]
    · exact absurd rfl h44
    · simp -implicitDefEqProofs [oneV, hlN, h8, h8i, a1, i1, n1, n1', w0, w1, w2, hL]
  · rcases hn with rfl | rfl | rfl | rfl
    · have hk : herr2 0 zs = 0 := rfl
      cases first <;> simp -implicitDefEqProofs [oneV, hlN, h8, h8i, a1, a2, a3, i1, i2, i3, n1, n2, n3, n1', n2', n3', w0, w1, w2, w3, w4, w5, w6, hL, hk]
    · by_cases h3 : gb zs 3 = 0
      · have hk : herr2 43 zs = 0 := by unfold herr2 k3e; unfold gb at *; rw [if_pos rfl, if_neg (by omega)]
        simp -implicitDefEqProofs [oneV, hlN, h8, h8i, a1, a2, a3, i1, i2, i3, n1, n2, n3, n1', n2', n3', w0, w1, w2, w3, w4, w5, w6, hL, hk, h3]
      · have hk : herr2 43 zs = 12 := by unfold herr2 k3e; unfold gb at *; rw [if_pos rfl, if_pos (by omega)]
        have h3n : (gb zs 3 != 0) = true := by simp [h3]
        simp -implicitDefEqProofs [oneV, hlN, h8, h8i, a1, a2, a3, i1, i2, i3, n1, n2, n3, n1', n2', n3', w0, w1, w2, w3, w4, w5, w6, hL, hk, h3, h3n]
    · exact absurd rfl h44
    · have hk : herr2 60 zs = 0 := rfl
      simp -implicitDefEqProofs [oneV, hlN, h8, h8i, a1, a2, a3, i1, i2, i3, n1, n2, n3, n1', n2', n3', w0, w1, w2, w3, w4, w5, w6, hL, hk]
def fIsExt : Fun
  | [.v (.int .u8 n)] => some (.v (.bool (decide (isExt n))), [])
  | _ => none
theorem isext_pure : Pure Try.prog 176 fIsExt := (runF_pure k0_ok follows_mixed dm_ok 100000 1 176).weaken fun args r h => by
  unfold fIsExt at h
  split at h
  · rw [← h]; exact isext_run _
  · cases h
def fOne : Fun
  | [.v (.int .u8 n), .v (.bool first), .sl nn b len cap] => (asB8 b).bind fun zs => if zs.length = len ∧ len ≤ 1099511627776 ∧ bytesB zs = true ∧ isExt n then some (.tup [.v (.int .i64 (oneV n first zs).1), .v (.int .i64 (oneV n first zs).2)], []) else none
  | _ => none
theorem one_pure : Pure Try.prog 177 fOne := (runF_pure k0_ok follows_mixed dm_ok 100000 1 177).weaken fun args r h => by
  unfold fOne at h
  split at h
  · rename_i n first nn b len cap
    obtain ⟨zs, hz, he⟩ := Option.bind_eq_some_iff.1 h
    clear h
    split at he
    case isFalse => cases he
    rename_i hh
    obtain ⟨rfl, h1, h2, h3⟩ := hh
    obtain rfl := asB8_eq hz
    rw [← he]
    exact one_run n first zs nn cap h2 h1 h3
  · cases h
def KA : Nat → Option Con
  | 176 => some fIsExt
  | 177 => some fOne
  | _ => none
theorem ka_ok : KOk Try.prog KA := fun f F h => by
  unfold KA at h
  split at h
  · cases h; exact ⟨isext_pure, _, Try.func176, rfl, by decide⟩
  · cases h; exact ⟨one_pure, _, Try.func177, rfl, by decide⟩
  · cases h
theorem ca_ext {D : FuncId → Nat → List Nat} {L d px : Nat} {args : List AV} {m : Mem} : pvCall Try.prog KA D L d px 176 args m = callBy fIsExt m px args := pvCall_by rfl
theorem ca_one {D : FuncId → Nat → List Nat} {L d px : Nat} {args : List AV} {m : Mem} : pvCall Try.prog KA D L d px 177 args m = callBy fOne m px args := pvCall_by rfl
theorem ka_ext : KA 176 = some (.pure fIsExt) := rfl
theorem ka_one : KA 177 = some (.pure fOne) := rfl
attribute [simp] ca_ext ca_one ka_ext ka_one
theorem one_chain {f j : Nat} {n k : Int} {l : List Int} (hb : bytesB l = true) (hn : isExt n) (hj : j < 8) : 
    (¬ (oneV n (decide (j = 0)) l).2 = 0 ∧ chainF (f + 1) n l j k = (0, 0, (oneV n (decide (j = 0)) l).2)) ∨ ((oneV n (decide (j = 0)) l) = (hlen n l, 0) ∧ 8 ≤ l.length ∧ 0 ≤ hlen n l ∧ hlen n l ≤ l.length ∧ chainF (f + 1) n l j k = chainF f (gb l 0) (l.drop (hlen n l).toNat) (j + 1) (k + hlen n l)) := by
  have g1 := gb_range hb 1
  have hh : 0 ≤ hlen n l := by unfold hlen; unfold gb at g1; split <;> omega
  unfold oneV
  rw [chainF]
  rw [if_neg (show ¬ ¬ isExt n from fun h => h hn), if_neg (show ¬ 8 ≤ j by omega)]
  by_cases h1 : n = 0 ∧ 1 ≤ j
  · rw [if_pos (show n = 0 ∧ decide (j = 0) = false from ⟨h1.1, by simp; omega⟩), if_pos h1]
    exact .inl ⟨by simp, rfl⟩
  rw [if_neg (show ¬ (n = 0 ∧ decide (j = 0) = false) from fun h => h1 ⟨h.1, by have := h.2; simp at this; omega⟩), if_neg h1]
  by_cases h2 : l.length < 8
  · rw [if_pos h2, if_pos h2]; exact .inl ⟨by simp, rfl⟩
  rw [if_neg h2, if_neg h2]
  by_cases h3 : (l.length : Int) < hlen n l
  · rw [if_pos h3, if_pos h3]; exact .inl ⟨by simp, rfl⟩
  rw [if_neg h3, if_neg h3]
  by_cases h4 : herr2 n l = 0
  · rw [if_pos h4, if_pos h4]; exact .inr ⟨rfl, by omega, hh, by omega, rfl⟩
  · rw [if_neg h4, if_neg h4]; exact .inl ⟨h4, rfl⟩
set_option maxHeartbeats 16000000 in
theorem rchain_run (n0 : Int) (zs : List Int) (nn : Bool) (cap : Option Nat) (hz : bytesB zs = true) (hl : zs.length ≤ 1099511627776) (hn0 : 0 ≤ n0) (hn1 : n0 ≤ 255) :
    runF Try.prog KA Dm 100000 1 151 [.v (.int .u8 n0), .sl nn (B8 zs) zs.length cap] = some (chainV n0 zs) := by
  unfold runF chainV
  obtain ⟨⟨r1, r2, r3⟩, hr⟩ : ∃ r, chainF 9 n0 zs 0 0 = r := ⟨_, rfl⟩
  rw [hr]
  rw [pvCall_own (fn := Try.f151) rfl Try.func151 rfl (by decide) rfl rfl (by simp)]
  simp -implicitDefEqProofs []
  generalize hL : loopK _ _ _ _ _ _ _ _ _ ⟨_, _⟩ = R
  obtain ⟨e, t', rfl, hk, hQ⟩ := loop_met4 hL [0, 4, 5, 6, 7, 8, 9, 10, 11, 12, 13, 14, 15, 16, 17, 18, 19, 20, 21, 22, 23, 24, 25, 26, 27, 28, 29, 30, 31, 32, 33, 34, 35, 36] 
    (fun j t => ∃ (n : Int) (k : Nat), t 0 = .v (.int .u8 n) ∧ t 7 = .v (.int .i64 (k : Int)) ∧ t 8 = .v (.int .i64 (j : Int)) ∧ 0 ≤ n ∧ n ≤ 255 ∧ k ≤ zs.length ∧ chainF (9 - j) n (zs.drop k) j k = (r1, r2, r3))
    (fun e t => (e = .exit 0 ∧ t 0 = .v (.int .u8 r1) ∧ t 7 = .v (.int .i64 r2) ∧ r3 = 0) ∨ (e = .ret ∧ t 4 = .v (.int .u8 r1) ∧ t 5 = .v (.int .i64 r2) ∧ t 6 = .v (.int .i64 r3))) 8 (by omega) ⟨n0, 0, by simp, by simp, by simp, hn0, hn1, by omega, by simpa using hr⟩
    (fun j t hj hk ⟨n, k, e0, e7, e8, a0, a1, hkl, hc⟩ => by
      have e1 := hk 1 (by decide)
      simp at e1
      by_cases hx : isExt n
      · by_cases h8 : j = 8
        · subst h8
          left
          have hr' : chainF 1 n (zs.drop k) 8 k = (0, 0, 3) := by unfold chainF; rw [if_neg (by simpa using hx), if_pos (by omega)]
          rw [show 9 - 8 = 1 from rfl, hr'] at hc
          simp only [Prod.mk.injEq] at hc
          obtain ⟨rfl, rfl, rfl⟩ := hc
          refine ⟨.ret, ?t0, by simp, ?a0, ?b0, ?c0⟩
          case a0 =>
            simp -implicitDefEqProofs [e0, e1, e7, e8, fIsExt, hx]
            exact rfl
          case b0 =>
            repeat' refine Kept.upd ?_ (by decide) _
            exact hk
          case c0 => right; simp
        · have h8i : ¬ (j : Int) = 8 := by omega
          have h8n : ((j : Int) == 8) = false := by simp; omega
          have k1 : (k : Int) ≤ (zs.length : Int) := by omega
          have kd : (zs.drop k).length = zs.length - k := by simp
          have k2 : zs.length - k ≤ 1099511627776 := by omega
          have hzk := bytesB_drop hz k
          have hj0 : ((j : Int) == 0) = decide (j = 0) := by
            by_cases h : j = 0
            · subst h; rfl
            · have : ¬ (j : Int) = 0 := by omega
              simp [h]
          have ht0 : List.take (zs.length - k) (List.drop k zs) = List.drop k zs := List.take_of_length_le (by simp)
          have hj1 : decide ((j : Int) = 0) = decide (j = 0) := by simp
          rcases one_chain (f := 8 - j) (n := n) (k := k) (j := j) hzk hx (by omega) with ⟨q1, q2⟩ | ⟨q1, q2, q3, q4, q5⟩
          · left
            rw [show 9 - j = 8 - j + 1 by omega, q2] at hc
            simp only [Prod.mk.injEq] at hc
            obtain ⟨rfl, rfl, rfl⟩ := hc
            refine ⟨.ret, ?t1, by simp, ?a1, ?b1, ?c1⟩
            case a1 =>
              simp -implicitDefEqProofs [e0, e1, e7, e8, fIsExt, fOne, hx, h8i, h8n, k1, kd, k2, hzk, hj0, hj1, hkl, q1, ht0, splice]
              exact rfl
            case b1 =>
              repeat' refine Kept.upd ?_ (by decide) _
              exact hk
            case c1 => right; simp
          · right
            rw [kd] at q2 q4
            have w1 : IntKind.i64.wrap ((k : Int) + hlen n (zs.drop k)) = ((k + (hlen n (zs.drop k)).toNat : Nat) : Int) := by rw [wrap64_id (by omega) (by omega)]; omega
            have w2 : IntKind.i64.wrap ((j : Int) + 1) = ((j + 1 : Nat) : Int) := by rw [wrap64_id (by omega) (by omega)]; omega
            have k3 : (k : Int) < (zs.length : Int) := by omega
            have k4 : k < zs.length := by omega
            have k5 := B8_at0 zs k k4
            have g0 := gb_range hz k
            refine ⟨by omega, ?t2, ?a2, ?b2, ?c2⟩
            case a2 =>
              simp -implicitDefEqProofs [e0, e1, e7, e8, fIsExt, fOne, hx, h8i, h8n, k1, kd, k2, hzk, hj0, hj1, hkl, q1, ht0, w1, w2, k3, k4, k5, splice]
              exact rfl
            case b2 =>
              repeat' refine Kept.upd ?_ (by decide) _
              exact hk
            case c2 =>
              refine ⟨gb zs k, k + (hlen n (zs.drop k)).toNat, by simp, by simp, by simp, g0.1, g0.2, by omega, ?_⟩
              rw [show 9 - j = 8 - j + 1 by omega, q5] at hc
              have e1 : gb (zs.drop k) 0 = gb zs k := by unfold gb; rw [List.getD_eq_getElem?_getD, List.getElem?_drop, List.getD_eq_getElem?_getD]; rfl
              rw [List.drop_drop, e1] at hc
              have e2 : (k : Int) + hlen n (zs.drop k) = ((k + (hlen n (zs.drop k)).toNat : Nat) : Int) := by omega
              rw [e2] at hc
              rw [show 9 - (j + 1) = 8 - j by omega]
              exact hc
      · left
        rw [show 9 - j = 8 - j + 1 by omega] at hc
        unfold chainF at hc
        rw [if_pos hx] at hc
        simp only [Prod.mk.injEq] at hc
        obtain ⟨rfl, rfl, rfl⟩ := hc
        refine ⟨.exit 0, ?t3, by simp, ?a3, ?b3, ?c3⟩
        case a3 =>
          simp -implicitDefEqProofs [e0, e1, e7, e8, fIsExt, hx]
          exact rfl
        case b3 =>
          repeat' refine Kept.upd ?_ (by decide) _
          exact hk
        case c3 => left; simp [e0, e7])
  rcases hQ with ⟨rfl, h0, h7, rfl⟩ | ⟨rfl, h4, h5, h6⟩
  · simp -implicitDefEqProofs [h0, h7]
  · simp -implicitDefEqProofs [h4, h5, h6]
def fRChain : Fun := fChain
theorem rchain_pure : Pure Try.prog 151 fChain := (runF_pure ka_ok follows_mixed dm_ok 100000 1 151).weaken fun args r h => by
  unfold fChain at h
  split at h
  · rename_i n nn b len cap
    obtain ⟨zs, hz, he⟩ := Option.bind_eq_some_iff.1 h
    clear h
    split at he
    case isFalse => cases he
    rename_i hh
    obtain ⟨rfl, h1, h2, h3, h4⟩ := hh
    obtain rfl := asB8_eq hz
    rw [← he]
    exact rchain_run n zs nn cap h2 h1 h3 h4
  · cases h
end Go.Proofs.Ytmdafjegddnecaa

/- ip6.Read as a function of values. -/
namespace Go.Proofs.Ytmdafjegddnecaa
open Go.Pm Go.Wb
set_option linter.unusedVariables false
set_option linter.unusedSimpArgs false
set_option maxRecDepth 1000000

def ip6A (cl la nx pr ho : Int) (ss ds : List Int) (c : AV) : AV := .agg (.v (.int .u8 cl) :: .v (.int .u32 la) :: .v (.int .u8 nx) :: .v (.int .u8 pr) :: .v (.int .u8 ho) :: (B8 ss ++ (B8 ds ++ [c])))
def z16 : List Int := [0, 0, 0, 0, 0, 0, 0, 0, 0, 0, 0, 0, 0, 0, 0, 0]
def noH6 : AV := ip6A 0 0 0 0 0 z16 z16 (.v (.slice none 0 0))
@[simp] theorem B8_nil : B8 [] = [] := rfl
theorem B8_cons (z : Int) (zs : List Int) : B8 (z :: zs) = .v (.int .u8 z) :: B8 zs := rfl
def err6 (e : Int) : AV × List (List AV) := (.tup [noH6, .v (.slice none 0 0), .v (.int .i64 e)], [])
def ip6R (zs : List Int) (pr : Int) (n L : Nat) : AV × List (List AV) :=
  (.tup [ip6A (gb zs 0 % 16 * 16 + gb zs 1 / 16) (gb zs 1 % 16 * 65536 + gb zs 2 * 256 + gb zs 3) (gb zs 6) pr (gb zs 7) ((zs.drop 8).take 16) ((zs.drop 24).take 16) (.own 0 0 0 n 1 (.whole 5)), .own 1 0 0 (L - n) 1 (.whole 5), .v (.int .i64 0)],
    [B8 ((zs.drop 40).take n), B8 ((zs.drop (40 + n)).take (L - n))])
def KB : Nat → Option Con
  | 65 => some fChain
  | 151 => some fChain
  | 66 => some fClone
  | _ => none
theorem kb_ok : KOk Try.prog KB := fun f F h => by
  unfold KB at h
  split at h
  · cases h; exact ⟨chain_pure, _, Try.func65, rfl, by decide⟩
  · cases h; exact ⟨rchain_pure, _, Try.func151, rfl, by decide⟩
  · cases h; exact ⟨clone_pure, _, Try.func66, rfl, by decide⟩
  · cases h
section
variable {D : FuncId → Nat → List Nat} {L d px : Nat} {args : List AV} {m : Mem}
theorem cb_chain : pvCall Try.prog KB D L d px 65 args m = callBy fChain m px args := pvCall_by rfl
theorem cb_rchain : pvCall Try.prog KB D L d px 151 args m = callBy fChain m px args := pvCall_by rfl
theorem cb_clone : pvCall Try.prog KB D L d px 66 args m = callBy fClone m px args := pvCall_by rfl
end
theorem kb_chain : KB 65 = some (.pure fChain) := rfl
theorem kb_rchain : KB 151 = some (.pure fChain) := rfl
theorem kb_clone : KB 66 = some (.pure fClone) := rfl
attribute [simp] cb_chain cb_rchain cb_clone kb_chain kb_rchain kb_clone
set_option maxHeartbeats 8000000 in
theorem pip6_short (zs : List Int) (nn : Bool) (cap : Option Nat) (h : zs.length < 40) : runF Try.prog KB Dm 100000 1 22 [.sl nn (B8 zs) zs.length cap] = some (err6 4) := by
  have h1 : (zs.length : Int) < 40 := by omega
  unfold runF err6 noH6 ip6A z16
  rw [pvCall_own (fn := Try.f22) rfl Try.func22 rfl (by decide) rfl rfl (by simp)]
  simp -implicitDefEqProofs [h1, splice, B8_cons]
set_option maxHeartbeats 8000000 in
theorem pip6_form (zs : List Int) (nn : Bool) (cap : Option Nat) (h : 40 ≤ zs.length) (hz : bytesB zs = true) (h6 : ¬ gb zs 0 / 16 = 6) : runF Try.prog KB Dm 100000 1 22 [.sl nn (B8 zs) zs.length cap] = some (err6 5) := by
  have h1 : ¬ (zs.length : Int) < 40 := by omega
  have a0 := B8_at00 zs (by omega)
  have l0 : 0 < zs.length := by omega
  have i0 : (0 : Int) < (zs.length : Int) := by omega
  have s1 : (gb zs 0).fdiv 16 = gb zs 0 / 16 := Int.fdiv_eq_ediv_of_nonneg _ (by omega)
  have h6n : (gb zs 0 / 16 != 6) = true := by simp [h6]
  unfold runF err6 noH6 ip6A z16
  rw [pvCall_own (fn := Try.f22) rfl Try.func22 rfl (by decide) rfl rfl (by simp)]
  simp -implicitDefEqProofs [h1, splice, B8_cons, a0, l0, i0, s1, h6, h6n, IntKind.bits]
def len6 (zs : List Int) : Nat := (gb zs 4 * 256 + gb zs 5).toNat
set_option maxHeartbeats 8000000 in
theorem pip6_short2 (zs : List Int) (nn : Bool) (cap : Option Nat) (h : 40 ≤ zs.length) (hz : bytesB zs = true) (h6 : gb zs 0 / 16 = 6) (hL : zs.length < 40 + len6 zs) : runF Try.prog KB Dm 100000 1 22 [.sl nn (B8 zs) zs.length cap] = some (err6 4) := by
  have h1 : ¬ (zs.length : Int) < 40 := by omega
  have a0 := B8_at00 zs (by omega)
  have l0 : 0 < zs.length := by omega
  have l4 : 4 < zs.length := by omega
  have l5 : 5 < zs.length := by omega
  have i0 : (0 : Int) < (zs.length : Int) := by omega
  have i4 : (4 : Int) < (zs.length : Int) := by omega
  have i5 : (5 : Int) < (zs.length : Int) := by omega
  have a4 := B8_at0 zs 4 (by omega)
  have a5 := B8_at0 zs 5 (by omega)
  have g4 := gb_range hz 4
  have g5 := gb_range hz 5
  have s1 : (gb zs 0).fdiv 16 = gb zs 0 / 16 := Int.fdiv_eq_ediv_of_nonneg _ (by omega)
  have w4 : IntKind.i64.wrap (gb zs 4) = gb zs 4 := wrap64_id (by omega) (by omega)
  have w5 : IntKind.i64.wrap (gb zs 5) = gb zs 5 := wrap64_id (by omega) (by omega)
  have w6 : IntKind.i64.wrap (gb zs 4 * 256) = gb zs 4 * 256 := wrap64_id (by omega) (by omega)
  have w7 : IntKind.i64.wrap (40 + gb zs 4 * 256) = 40 + gb zs 4 * 256 := wrap64_id (by omega) (by omega)
  have w8 : IntKind.i64.wrap (40 + gb zs 4 * 256 + gb zs 5) = 40 + gb zs 4 * 256 + gb zs 5 := wrap64_id (by omega) (by omega)
  have q : (zs.length : Int) < 40 + gb zs 4 * 256 + gb zs 5 := by unfold len6 at hL; omega
  unfold runF err6 noH6 ip6A z16
  rw [pvCall_own (fn := Try.f22) rfl Try.func22 rfl (by decide) rfl rfl (by simp)]
  simp -implicitDefEqProofs [h1, splice, B8_cons, a0, l0, i0, s1, h6, IntKind.bits, l4, l5, i4, i5, a4, a5, w4, w5, w6, w7, w8, q]
theorem or8_16 (x y : Int) (x0 : 0 ≤ x * 16) (x1 : x ≤ 15) (y0 : 0 ≤ y) (y1 : y ≤ 15) : bits .or .u8 (x * 16) y = x * 16 + y := by
  obtain ⟨a, rfl⟩ := Int.eq_ofNat_of_zero_le (show 0 ≤ x by omega)
  obtain ⟨b, rfl⟩ := Int.eq_ofNat_of_zero_le y0
  have h := Nat.two_pow_add_eq_or_of_lt (i := 4) (b := b) (by omega) a
  rw [u8_or _ _ (by omega) (by omega) (by omega) (by omega), show ((a : Int) * 16).toNat = 2 ^ 4 * a from by omega, Int.toNat_natCast, ← h]
  omega
theorem or32_any (X y : Int) (i : Nat) (x : Int) (hX : X = x * (2 ^ i : Nat)) (x0 : 0 ≤ x) (x1 : X < 4294967296 - 2 ^ i) (y0 : 0 ≤ y) (y1 : y < (2 ^ i : Nat)) : bits .or .u32 X y = X + y := by
  obtain ⟨a, rfl⟩ := Int.eq_ofNat_of_zero_le x0
  obtain ⟨b, rfl⟩ := Int.eq_ofNat_of_zero_le y0
  have h := Nat.two_pow_add_eq_or_of_lt (i := i) (b := b) (by omega) a
  have hp : ((2 ^ i : Nat) : Int) = (2 : Int) ^ i := by simp
  have e : X = ((2 ^ i * a : Nat) : Int) := by rw [hX, Int.natCast_mul, Int.mul_comm]
  subst e
  rw [hp] at y1
  rw [u32_or _ _ (by omega) (by omega) (by omega) (by omega), Int.toNat_natCast, Int.toNat_natCast, ← h]
  omega
set_option maxHeartbeats 8000000 in
theorem pip6_chain (zs : List Int) (nn : Bool) (cap : Option Nat) (h : 40 ≤ zs.length) (hl : zs.length ≤ 500000) (hz : bytesB zs = true) (h6 : gb zs 0 / 16 = 6) (hL : 40 + len6 zs ≤ zs.length) (r1 r2 r3 : Int) (hc : chainF 9 (gb zs 6) ((zs.drop 40).take (len6 zs)) 0 0 = (r1, r2, r3)) 
    (X : AV × List (List AV)) (hX : (¬ r3 = 0 ∧ X = err6 r3) ∨ (r3 = 0 ∧ ∃ n : Nat, r2 = (n : Int) ∧ n ≤ len6 zs ∧ X = ip6R zs r1 n (len6 zs))) : runF Try.prog KB Dm 100000 1 22 [.sl nn (B8 zs) zs.length cap] = some X := by
  have h1 : ¬ (zs.length : Int) < 40 := by omega
  have a0 := B8_at00 zs (by omega)
  have l0 : 0 < zs.length := by omega
  have l1 : 1 < zs.length := by omega
  have l2 : 2 < zs.length := by omega
  have l3 : 3 < zs.length := by omega
  have l4 : 4 < zs.length := by omega
  have l5 : 5 < zs.length := by omega
  have l6 : 6 < zs.length := by omega
  have l7 : 7 < zs.length := by omega
  have i0 : (0 : Int) < (zs.length : Int) := by omega
  have i1 : (1 : Int) < (zs.length : Int) := by omega
  have i2 : (2 : Int) < (zs.length : Int) := by omega
  have i3 : (3 : Int) < (zs.length : Int) := by omega
  have i4 : (4 : Int) < (zs.length : Int) := by omega
  have i5 : (5 : Int) < (zs.length : Int) := by omega
  have i6 : (6 : Int) < (zs.length : Int) := by omega
  have i7 : (7 : Int) < (zs.length : Int) := by omega
  have a1 := B8_at0 zs 1 (by omega)
  have a2 := B8_at0 zs 2 (by omega)
  have a3 := B8_at0 zs 3 (by omega)
  have a4 := B8_at0 zs 4 (by omega)
  have a5 := B8_at0 zs 5 (by omega)
  have a6 := B8_at0 zs 6 (by omega)
  have a7 := B8_at0 zs 7 (by omega)
  have g0 := gb_range hz 0
  have g1 := gb_range hz 1
  have g2 := gb_range hz 2
  have g3 := gb_range hz 3
  have g4 := gb_range hz 4
  have g5 := gb_range hz 5
  have g6 := gb_range hz 6
  have s1 : (gb zs 0).fdiv 16 = gb zs 0 / 16 := Int.fdiv_eq_ediv_of_nonneg _ (by omega)
  have w4 : IntKind.i64.wrap (gb zs 4) = gb zs 4 := wrap64_id (by omega) (by omega)
  have w5 : IntKind.i64.wrap (gb zs 5) = gb zs 5 := wrap64_id (by omega) (by omega)
  have w6 : IntKind.i64.wrap (gb zs 4 * 256) = gb zs 4 * 256 := wrap64_id (by omega) (by omega)
  have w7 : IntKind.i64.wrap (40 + gb zs 4 * 256) = 40 + gb zs 4 * 256 := wrap64_id (by omega) (by omega)
  have w8 : IntKind.i64.wrap (40 + gb zs 4 * 256 + gb zs 5) = 40 + (len6 zs : Int) := by rw [wrap64_id (by omega) (by omega)]; unfold len6; omega
  have q : ¬ (zs.length : Int) < 40 + (len6 zs : Int) := by omega
  have q1 : 40 + (len6 zs : Int) ≤ (zs.length : Int) := by omega
  have hLb : len6 zs ≤ 65535 := by unfold len6; omega
  generalize hLe : len6 zs = L at *
  have q2 : (40 + (L : Int)).toNat = 40 + L := by omega
  have q3 : (0 : Int) ≤ 40 + (L : Int) := by omega
  have q4 : (40 : Int) ≤ 40 + (L : Int) := by omega
  have q5 : L ≤ zs.length - 40 := by omega
  have q6 : L ≤ 1099511627776 := by omega
  have q7 : ((zs.drop 40).take L).length = L := by simp; omega
  have q8 : bytesB ((zs.drop 40).take L) = true := bytesB_take (bytesB_drop hz _) _
  unfold runF
  rw [pvCall_own (fn := Try.f22) rfl Try.func22 rfl (by decide) rfl rfl (by simp)]
  simp -implicitDefEqProofs [h1, splice, B8_cons, a0, l0, i0, s1, h6, IntKind.bits, l4, l5, i4, i5, a4, a5, w4, w5, w6, w7, w8, q, l6, i6, a6, hc, q1, q2, q3, q4, q5, q6, q7, q8, g6, chainV, hL, fChain]
  rcases hX with ⟨hr, rfl⟩ | ⟨rfl, n, rfl, hn, rfl⟩
  · have hrn : (r3 != 0) = true := by simp [hr]
    unfold err6 noH6 ip6A z16
    simp -implicitDefEqProofs [hr, hrn, splice, B8_cons]
  · have u1 : IntKind.u8.wrap (gb zs 0 * 16) = gb zs 0 % 16 * 16 := by rw [wrapu8_mod]; omega
    have u2 : (gb zs 1).fdiv 16 = gb zs 1 / 16 := Int.fdiv_eq_ediv_of_nonneg _ (by omega)
    have u3 : bits .or .u8 (gb zs 0 % 16 * 16) (gb zs 1 / 16) = gb zs 0 % 16 * 16 + gb zs 1 / 16 := or8_16 _ _ (by omega) (by omega) (by omega) (by omega)
    have u4 := and15v (gb zs 1) g1.1 g1.2
    have u5 : IntKind.u32.wrap (gb zs 1 % 16) = gb zs 1 % 16 := wrapu32_id (by omega) (by omega)
    have u6 : IntKind.u32.wrap (gb zs 1 % 16 * 65536) = gb zs 1 % 16 * 65536 := wrapu32_id (by omega) (by omega)
    have u7 : IntKind.u32.wrap (gb zs 2) = gb zs 2 := wrapu32_id (by omega) (by omega)
    have u8 : IntKind.u32.wrap (gb zs 2 * 256) = gb zs 2 * 256 := wrapu32_id (by omega) (by omega)
    have u9 : IntKind.u32.wrap (gb zs 3) = gb zs 3 := wrapu32_id (by omega) (by omega)
    have u10 : bits .or .u32 (gb zs 1 % 16 * 65536) (gb zs 2 * 256) = gb zs 1 % 16 * 65536 + gb zs 2 * 256 := or32_any _ _ 16 (gb zs 1 % 16) (by omega) (by omega) (by omega) (by omega) (by omega)
    have u11 : bits .or .u32 (gb zs 1 % 16 * 65536 + gb zs 2 * 256) (gb zs 3) = gb zs 1 % 16 * 65536 + gb zs 2 * 256 + gb zs 3 := or32_any _ _ 8 (gb zs 1 % 16 * 256 + gb zs 2) (by omega) (by omega) (by omega) (by omega) (by omega)
    have c1 : IntKind.i64.wrap (40 + (n : Int)) = 40 + (n : Int) := wrap64_id (by omega) (by omega)
    obtain ⟨S, hS⟩ : ∃ S, (zs.drop 8).take 16 = S := ⟨_, rfl⟩
    obtain ⟨E, hE⟩ : ∃ E, (zs.drop 24).take 16 = E := ⟨_, rfl⟩
    have hSl : S.length = 16 := by rw [← hS]; simp; omega
    have hEl : E.length = 16 := by rw [← hE]; simp; omega
    have k1 : 8 ≤ zs.length := by omega
    have k2 : 24 ≤ zs.length := by omega
    have k3 : 16 ≤ zs.length - 8 := by omega
    have k4 : 16 ≤ zs.length - 24 := by omega
    have k5 : List.take (zs.length - 8) (List.drop 8 zs) = List.drop 8 zs := List.take_of_length_le (by simp)
    have k6 : List.take (zs.length - 24) (List.drop 24 zs) = List.drop 24 zs := List.take_of_length_le (by simp)
    have n1 : (0 : Int) ≤ 40 + (n : Int) := by omega
    have n2 : (40 + (n : Int)).toNat = 40 + n := by omega
    have n3 : (40 : Int) ≤ 40 + (n : Int) := by omega
    have n4 : 40 + (n : Int) ≤ (zs.length : Int) := by omega
    have n5 : 40 + n ≤ zs.length := by omega
    have n6 : min n (zs.length - 40) = n := by omega
    have n7 : min (L - n) (zs.length - (40 + n)) = L - n := by omega
    have n8 : n ≤ 549755813888 := by omega
    have n9 : L - n ≤ 549755813888 := by omega
    have n10 : 40 + (n : Int) ≤ 40 + (L : Int) := by omega
    have n11 : 40 + L - (40 + n) = L - n := by omega
    have n12 : n ≤ L := hn
    have n13 : n ≤ zs.length - 40 := by omega
    have n14 : L - n ≤ zs.length - (40 + n) := by omega
    unfold ip6R ip6A
    simp -implicitDefEqProofs [hL, splice, B8_cons, a0, a1, a2, a3, a4, a6, a7, l0, l1, l2, l3, l4, l6, l7, i0, i1, i2, i3, i6, i7, u1, u2, u3, u4, u5, u6, u7, u8, u9, u10, u11, IntKind.bits, c1, hS, hE, hSl, hEl, k1, k2, k3, k4, k5, k6, n1, n2, n3, n4, n5, n6, n7, n8, n9, n10, n11, n12, n13, n14, q1, q2, q3, hL, fClone, B8t16 hSl, B8d16 hSl, B8t16 hEl, B8d16 hEl, B8t33 hSl, B8t17 hEl, B8d32 hSl, B8d32 hEl, B8t32 hSl, B8d33 hSl, B8d17 hEl, B8x33 hSl hEl, Nat.testBit_eq_decide_div_mod_eq]
def ip6V (zs : List Int) : AV × List (List AV) :=
  if zs.length < 40 then err6 4 else if ¬ gb zs 0 / 16 = 6 then err6 5 else if zs.length < 40 + len6 zs then err6 4 else
  if (chainF 9 (gb zs 6) ((zs.drop 40).take (len6 zs)) 0 0).2.2 = 0 then ip6R zs (chainF 9 (gb zs 6) ((zs.drop 40).take (len6 zs)) 0 0).1 (chainF 9 (gb zs 6) ((zs.drop 40).take (len6 zs)) 0 0).2.1.toNat (len6 zs)
  else err6 (chainF 9 (gb zs 6) ((zs.drop 40).take (len6 zs)) 0 0).2.2
def fIP6 : Fun
  | [.sl nn b len cap] => (asB8 b).bind fun zs => if zs.length = len ∧ len ≤ 500000 ∧ bytesB zs = true then some (ip6V zs) else none
  | _ => none
theorem chain6_out {zs : List Int} (hz : bytesB zs = true) (h : 40 + len6 zs ≤ zs.length) : ∀ X : AV × List (List AV), X = (if (chainF 9 (gb zs 6) ((zs.drop 40).take (len6 zs)) 0 0).2.2 = 0 then ip6R zs (chainF 9 (gb zs 6) ((zs.drop 40).take (len6 zs)) 0 0).1 (chainF 9 (gb zs 6) ((zs.drop 40).take (len6 zs)) 0 0).2.1.toNat (len6 zs)
  else err6 (chainF 9 (gb zs 6) ((zs.drop 40).take (len6 zs)) 0 0).2.2) → (¬ (chainF 9 (gb zs 6) ((zs.drop 40).take (len6 zs)) 0 0).2.2 = 0 ∧ X = err6 (chainF 9 (gb zs 6) ((zs.drop 40).take (len6 zs)) 0 0).2.2) ∨ ((chainF 9 (gb zs 6) ((zs.drop 40).take (len6 zs)) 0 0).2.2 = 0 ∧ ∃ n : Nat, (chainF 9 (gb zs 6) ((zs.drop 40).take (len6 zs)) 0 0).2.1 = (n : Int) ∧ n ≤ len6 zs ∧ X = ip6R zs (chainF 9 (gb zs 6) ((zs.drop 40).take (len6 zs)) 0 0).1 n (len6 zs)) := by
  intro X hX
  have g6 := gb_range hz 6
  have hl : ((zs.drop 40).take (len6 zs)).length = len6 zs := by simp; omega
  have := chain_out 9 (gb zs 6) ((zs.drop 40).take (len6 zs)) 0 0 g6.1 g6.2 (bytesB_take (bytesB_drop hz _) _) (by omega) (by omega) (by omega)
  rw [hl] at this
  rcases this with ⟨h1, h2, h3, h4, h5⟩ | ⟨h1, h2, h3⟩
  · rw [if_pos h1] at hX
    exact .inr ⟨h1, _, (Int.toNat_of_nonneg h2).symm, by omega, hX⟩
  · rw [if_neg h1] at hX
    exact .inl ⟨h1, hX⟩
theorem ip6_pure : Pure Try.prog 22 fIP6 := (runF_pure kb_ok follows_mixed dm_ok 100000 1 22).weaken fun args r h => by
  unfold fIP6 at h
  split at h
  · rename_i nn b len cap
    obtain ⟨zs, hz, he⟩ := Option.bind_eq_some_iff.1 h
    clear h
    split at he
    case isFalse => cases he
    rename_i hh
    obtain ⟨rfl, h1, h2⟩ := hh
    obtain rfl := asB8_eq hz
    rw [← he]
    unfold ip6V
    split
    · rename_i q; exact pip6_short zs nn cap q
    split
    · rename_i q0 q; exact pip6_form zs nn cap (by omega) h2 q
    split
    · rename_i q0 q1 q; exact pip6_short2 zs nn cap (by omega) h2 (by omega) q
    · rename_i q0 q1 q2
      exact pip6_chain zs nn cap (by omega) h1 h2 (by omega) (by omega) _ _ _ rfl _ (chain6_out h2 (by omega) _ rfl)
  · cases h
end Go.Proofs.Ytmdafjegddnecaa

/- The reference's reader of IPv6 as a function of values. -/
namespace Go.Proofs.Ytmdafjegddnecaa
open Go.Pm Go.Wb
set_option linter.unusedVariables false
set_option linter.unusedSimpArgs false
set_option maxRecDepth 1000000
theorem take16_eq {zs : List Int} {k : Nat} (h : k + 16 ≤ zs.length) : (zs.drop k).take 16 = (List.range 16).map fun i => gb zs (k + i) := by
  apply List.ext_getElem?
  intro i
  rw [List.getElem?_take, List.getElem?_drop, List.getElem?_map]
  by_cases hi : i < 16
  · rw [if_pos hi, List.getElem?_range hi]
    show _ = some (gb zs (k + i))
    unfold gb
    rw [List.getD_eq_getElem?_getD, List.getElem?_eq_getElem (by omega)]; rfl
  · rw [if_neg hi, List.getElem?_eq_none (by simp; omega)]; rfl
set_option maxHeartbeats 8000000 in
theorem sixt8_run (zs : List Int) (nn : Bool) (cap : Option Nat) (h : 40 ≤ zs.length) : runF Try.prog K0 Dm 100000 1 158 [.sl nn (B8 zs) zs.length cap, .v (.int .i64 8)] = some (.agg (B8 ((zs.drop 8).take 16)), []) := by
  have l8 : 8 < zs.length := by omega
  have i8 : (8 : Int) < (zs.length : Int) := by omega
  have a8 := B8_at0 zs 8 (by omega)
  have l9 : 9 < zs.length := by omega
  have i9 : (9 : Int) < (zs.length : Int) := by omega
  have a9 := B8_at0 zs 9 (by omega)
  have l10 : 10 < zs.length := by omega
  have i10 : (10 : Int) < (zs.length : Int) := by omega
  have a10 := B8_at0 zs 10 (by omega)
  have l11 : 11 < zs.length := by omega
  have i11 : (11 : Int) < (zs.length : Int) := by omega
  have a11 := B8_at0 zs 11 (by omega)
  have l12 : 12 < zs.length := by omega
  have i12 : (12 : Int) < (zs.length : Int) := by omega
  have a12 := B8_at0 zs 12 (by omega)
  have l13 : 13 < zs.length := by omega
  have i13 : (13 : Int) < (zs.length : Int) := by omega
  have a13 := B8_at0 zs 13 (by omega)
  have l14 : 14 < zs.length := by omega
  have i14 : (14 : Int) < (zs.length : Int) := by omega
  have a14 := B8_at0 zs 14 (by omega)
  have l15 : 15 < zs.length := by omega
  have i15 : (15 : Int) < (zs.length : Int) := by omega
  have a15 := B8_at0 zs 15 (by omega)
  have l16 : 16 < zs.length := by omega
  have i16 : (16 : Int) < (zs.length : Int) := by omega
  have a16 := B8_at0 zs 16 (by omega)
  have l17 : 17 < zs.length := by omega
  have i17 : (17 : Int) < (zs.length : Int) := by omega
  have a17 := B8_at0 zs 17 (by omega)
  have l18 : 18 < zs.length := by omega
  have i18 : (18 : Int) < (zs.length : Int) := by omega
  have a18 := B8_at0 zs 18 (by omega)
  have l19 : 19 < zs.length := by omega
  have i19 : (19 : Int) < (zs.length : Int) := by omega
  have a19 := B8_at0 zs 19 (by omega)
  have l20 : 20 < zs.length := by omega
  have i20 : (20 : Int) < (zs.length : Int) := by omega
  have a20 := B8_at0 zs 20 (by omega)
  have l21 : 21 < zs.length := by omega
  have i21 : (21 : Int) < (zs.length : Int) := by omega
  have a21 := B8_at0 zs 21 (by omega)
  have l22 : 22 < zs.length := by omega
  have i22 : (22 : Int) < (zs.length : Int) := by omega
  have a22 := B8_at0 zs 22 (by omega)
  have l23 : 23 < zs.length := by omega
  have i23 : (23 : Int) < (zs.length : Int) := by omega
  have a23 := B8_at0 zs 23 (by omega)
  rw [take16_eq (by omega)]
  unfold runF
  rw [pvCall_own (fn := Try.f158) rfl Try.func158 rfl (by decide) rfl rfl (by simp)]
  simp -implicitDefEqProofs [loopK_pos, splice, l8, i8, a8, l9, i9, a9, l10, i10, a10, l11, i11, a11, l12, i12, a12, l13, i13, a13, l14, i14, a14, l15, i15, a15, l16, i16, a16, l17, i17, a17, l18, i18, a18, l19, i19, a19, l20, i20, a20, l21, i21, a21, l22, i22, a22, l23, i23, a23]
  rfl
set_option maxHeartbeats 8000000 in
theorem sixt24_run (zs : List Int) (nn : Bool) (cap : Option Nat) (h : 40 ≤ zs.length) : runF Try.prog K0 Dm 100000 1 158 [.sl nn (B8 zs) zs.length cap, .v (.int .i64 24)] = some (.agg (B8 ((zs.drop 24).take 16)), []) := by
  have l24 : 24 < zs.length := by omega
  have i24 : (24 : Int) < (zs.length : Int) := by omega
  have a24 := B8_at0 zs 24 (by omega)
  have l25 : 25 < zs.length := by omega
  have i25 : (25 : Int) < (zs.length : Int) := by omega
  have a25 := B8_at0 zs 25 (by omega)
  have l26 : 26 < zs.length := by omega
  have i26 : (26 : Int) < (zs.length : Int) := by omega
  have a26 := B8_at0 zs 26 (by omega)
  have l27 : 27 < zs.length := by omega
  have i27 : (27 : Int) < (zs.length : Int) := by omega
  have a27 := B8_at0 zs 27 (by omega)
  have l28 : 28 < zs.length := by omega
  have i28 : (28 : Int) < (zs.length : Int) := by omega
  have a28 := B8_at0 zs 28 (by omega)
  have l29 : 29 < zs.length := by omega
  have i29 : (29 : Int) < (zs.length : Int) := by omega
  have a29 := B8_at0 zs 29 (by omega)
  have l30 : 30 < zs.length := by omega
  have i30 : (30 : Int) < (zs.length : Int) := by omega
  have a30 := B8_at0 zs 30 (by omega)
  have l31 : 31 < zs.length := by omega
  have i31 : (31 : Int) < (zs.length : Int) := by omega
  have a31 := B8_at0 zs 31 (by omega)
  have l32 : 32 < zs.length := by omega
  have i32 : (32 : Int) < (zs.length : Int) := by omega
  have a32 := B8_at0 zs 32 (by omega)
  have l33 : 33 < zs.length := by omega
  have i33 : (33 : Int) < (zs.length : Int) := by omega
  have a33 := B8_at0 zs 33 (by omega)
  have l34 : 34 < zs.length := by omega
  have i34 : (34 : Int) < (zs.length : Int) := by omega
  have a34 := B8_at0 zs 34 (by omega)
  have l35 : 35 < zs.length := by omega
  have i35 : (35 : Int) < (zs.length : Int) := by omega
  have a35 := B8_at0 zs 35 (by omega)
  have l36 : 36 < zs.length := by omega
  have i36 : (36 : Int) < (zs.length : Int) := by omega
  have a36 := B8_at0 zs 36 (by omega)
  have l37 : 37 < zs.length := by omega
  have i37 : (37 : Int) < (zs.length : Int) := by omega
  have a37 := B8_at0 zs 37 (by omega)
  have l38 : 38 < zs.length := by omega
  have i38 : (38 : Int) < (zs.length : Int) := by omega
  have a38 := B8_at0 zs 38 (by omega)
  have l39 : 39 < zs.length := by omega
  have i39 : (39 : Int) < (zs.length : Int) := by omega
  have a39 := B8_at0 zs 39 (by omega)
  rw [take16_eq (by omega)]
  unfold runF
  rw [pvCall_own (fn := Try.f158) rfl Try.func158 rfl (by decide) rfl rfl (by simp)]
  simp -implicitDefEqProofs [loopK_pos, splice, l24, i24, a24, l25, i25, a25, l26, i26, a26, l27, i27, a27, l28, i28, a28, l29, i29, a29, l30, i30, a30, l31, i31, a31, l32, i32, a32, l33, i33, a33, l34, i34, a34, l35, i35, a35, l36, i36, a36, l37, i37, a37, l38, i38, a38, l39, i39, a39]
  rfl
def fSixt : Fun
  | [.sl nn b len cap, .v (.int .i64 k)] => (asB8 b).bind fun zs => if zs.length = len ∧ 40 ≤ len ∧ (k = 8 ∨ k = 24) then some (.agg (B8 ((zs.drop k.toNat).take 16)), []) else none
  | _ => none
theorem sixt_pure : Pure Try.prog 158 fSixt := (runF_pure k0_ok follows_mixed dm_ok 100000 1 158).weaken fun args r h => by
  unfold fSixt at h
  split at h
  · rename_i nn b len cap k
    obtain ⟨zs, hz, he⟩ := Option.bind_eq_some_iff.1 h
    clear h
    split at he
    case isFalse => cases he
    rename_i hh
    obtain ⟨rfl, h1, h2⟩ := hh
    obtain rfl := asB8_eq hz
    rw [← he]
    rcases h2 with rfl | rfl
    · exact sixt8_run zs nn cap h1
    · exact sixt24_run zs nn cap h1
  · cases h
def KC : Nat → Option Con
  | 158 => some fSixt
  | f => KB f
theorem kc_ok : KOk Try.prog KC := fun f F h => by
  unfold KC at h
  split at h
  · cases h; exact ⟨sixt_pure, _, Try.func158, rfl, by decide⟩
  · exact kb_ok f F h
section
variable {D : FuncId → Nat → List Nat} {L d px : Nat} {args : List AV} {m : Mem}
theorem cc_chain : pvCall Try.prog KC D L d px 65 args m = callBy fChain m px args := pvCall_by rfl
theorem cc_rchain : pvCall Try.prog KC D L d px 151 args m = callBy fChain m px args := pvCall_by rfl
theorem cc_clone : pvCall Try.prog KC D L d px 66 args m = callBy fClone m px args := pvCall_by rfl
theorem cc_sixt : pvCall Try.prog KC D L d px 158 args m = callBy fSixt m px args := pvCall_by rfl
end
theorem kc_chain : KC 65 = some (.pure fChain) := rfl
theorem kc_rchain : KC 151 = some (.pure fChain) := rfl
theorem kc_clone : KC 66 = some (.pure fClone) := rfl
theorem kc_sixt : KC 158 = some (.pure fSixt) := rfl
attribute [simp] cc_chain cc_rchain cc_clone cc_sixt kc_chain kc_rchain kc_clone kc_sixt
theorem wrapu64_id {x : Int} (h0 : 0 ≤ x) (h1 : x < 18446744073709551616) : IntKind.u64.wrap x = x := by simp [IntKind.wrap, IntKind.signed, IntKind.bits]; omega
set_option maxHeartbeats 8000000 in
theorem rip6_short (zs : List Int) (nn : Bool) (cap : Option Nat) (h : zs.length < 40) : runF Try.prog KC Dm 100000 1 129 [.sl nn (B8 zs) zs.length cap] = some (err6 4) := by
  have h1 : (zs.length : Int) < 40 := by omega
  unfold runF err6 noH6 ip6A z16
  rw [pvCall_own (fn := Try.f129) rfl Try.func129 rfl (by decide) rfl rfl (by simp)]
  simp -implicitDefEqProofs [h1, splice, B8_cons]
set_option maxHeartbeats 8000000 in
theorem rip6_form (zs : List Int) (nn : Bool) (cap : Option Nat) (h : 40 ≤ zs.length) (hl : zs.length ≤ 500000) (hz : bytesB zs = true) (h6 : ¬ gb zs 0 / 16 = 6) : runF Try.prog KC Dm 100000 1 129 [.sl nn (B8 zs) zs.length cap] = some (err6 5) := by
  obtain ⟨F, hF⟩ : ∃ F, ((gb zs 0 * 256 + gb zs 1) * 256 + gb zs 2) * 256 + gb zs 3 = F := ⟨_, rfl⟩
  have h1 : ¬ (zs.length : Int) < 40 := by omega
  have l0 : 0 < zs.length := by omega
  have i0 : (0 : Int) < (zs.length : Int) := by omega
  have g0 := gb_range hz 0
  have l1 : 1 < zs.length := by omega
  have i1 : (1 : Int) < (zs.length : Int) := by omega
  have g1 := gb_range hz 1
  have l2 : 2 < zs.length := by omega
  have i2 : (2 : Int) < (zs.length : Int) := by omega
  have g2 := gb_range hz 2
  have l3 : 3 < zs.length := by omega
  have i3 : (3 : Int) < (zs.length : Int) := by omega
  have g3 := gb_range hz 3
  have l4 : 4 < zs.length := by omega
  have i4 : (4 : Int) < (zs.length : Int) := by omega
  have g4 := gb_range hz 4
  have l5 : 5 < zs.length := by omega
  have i5 : (5 : Int) < (zs.length : Int) := by omega
  have g5 := gb_range hz 5
  have l6 : 6 < zs.length := by omega
  have i6 : (6 : Int) < (zs.length : Int) := by omega
  have g6 := gb_range hz 6
  have l7 : 7 < zs.length := by omega
  have i7 : (7 : Int) < (zs.length : Int) := by omega
  have g7 := gb_range hz 7
  have a0 := B8_at00 zs (by omega)
  have a1 := B8_at0 zs 1 (by omega)
  have a2 := B8_at0 zs 2 (by omega)
  have a3 := B8_at0 zs 3 (by omega)
  have a4 := B8_at0 zs 4 (by omega)
  have a5 := B8_at0 zs 5 (by omega)
  have a6 := B8_at0 zs 6 (by omega)
  have a7 := B8_at0 zs 7 (by omega)
  have u0 : IntKind.u64.wrap (gb zs 0) = gb zs 0 := wrapu64_id (by omega) (by omega)
  have u1 : IntKind.u64.wrap (gb zs 1) = gb zs 1 := wrapu64_id (by omega) (by omega)
  have u2 : IntKind.u64.wrap (gb zs 2) = gb zs 2 := wrapu64_id (by omega) (by omega)
  have u3 : IntKind.u64.wrap (gb zs 3) = gb zs 3 := wrapu64_id (by omega) (by omega)
  have u06 : IntKind.u64.wrap 6 = 6 := by decide
  have u00 : IntKind.u64.wrap 0 = 0 := by decide
  have v1 : IntKind.u64.wrap (gb zs 0 * 256) = gb zs 0 * 256 := wrapu64_id (by omega) (by omega)
  have v2 : IntKind.u64.wrap (gb zs 0 * 256 + gb zs 1) = gb zs 0 * 256 + gb zs 1 := wrapu64_id (by omega) (by omega)
  have v3 : IntKind.u64.wrap ((gb zs 0 * 256 + gb zs 1) * 256) = (gb zs 0 * 256 + gb zs 1) * 256 := wrapu64_id (by omega) (by omega)
  have v4 : IntKind.u64.wrap ((gb zs 0 * 256 + gb zs 1) * 256 + gb zs 2) = (gb zs 0 * 256 + gb zs 1) * 256 + gb zs 2 := wrapu64_id (by omega) (by omega)
  have v5 : IntKind.u64.wrap (((gb zs 0 * 256 + gb zs 1) * 256 + gb zs 2) * 256) = ((gb zs 0 * 256 + gb zs 1) * 256 + gb zs 2) * 256 := wrapu64_id (by omega) (by omega)
  have v6 : IntKind.u64.wrap (((gb zs 0 * 256 + gb zs 1) * 256 + gb zs 2) * 256 + gb zs 3) = F := by rw [wrapu64_id (by omega) (by omega), hF]
  have v7 : F.tdiv 268435456 = gb zs 0 / 16 := by rw [Int.tdiv_eq_ediv_of_nonneg (by omega)]; omega
  have v8 : IntKind.u64.wrap (gb zs 0 / 16) = gb zs 0 / 16 := wrapu64_id (by omega) (by omega)
  have w4 : IntKind.i64.wrap (gb zs 4) = gb zs 4 := wrap64_id (by omega) (by omega)
  have w5 : IntKind.i64.wrap (gb zs 5) = gb zs 5 := wrap64_id (by omega) (by omega)
  have w6 : IntKind.i64.wrap (gb zs 4 * 256) = gb zs 4 * 256 := wrap64_id (by omega) (by omega)
  have w7 : IntKind.i64.wrap (gb zs 4 * 256 + gb zs 5) = (len6 zs : Int) := by rw [wrap64_id (by omega) (by omega)]; unfold len6; omega
  have w8 : IntKind.i64.wrap ((zs.length : Int) - 40) = (zs.length : Int) - 40 := wrap64_id (by omega) (by omega)
  have h6n : (gb zs 0 / 16 != 6) = true := by simp [h6]
  unfold runF err6 noH6 ip6A z16
  rw [pvCall_own (fn := Try.f129) rfl Try.func129 rfl (by decide) rfl rfl (by simp)]
  simp -implicitDefEqProofs [h1, splice, loopK_pos, u00, l0, i0, a0, l1, i1, a1, l2, i2, a2, l3, i3, a3, l4, i4, a4, l5, i5, a5, l6, i6, a6, l7, i7, a7, u06, u0, u1, u2, u3, v1, v2, v3, v4, v5, v6, v7, v8, w4, w5, w6, w7, w8, IntKind.bits, B8_cons, h6, h6n]
set_option maxHeartbeats 8000000 in
theorem rip6_short2 (zs : List Int) (nn : Bool) (cap : Option Nat) (h : 40 ≤ zs.length) (hl : zs.length ≤ 500000) (hz : bytesB zs = true) (h6 : gb zs 0 / 16 = 6) (hL : zs.length < 40 + len6 zs) : runF Try.prog KC Dm 100000 1 129 [.sl nn (B8 zs) zs.length cap] = some (err6 4) := by
  obtain ⟨F, hF⟩ : ∃ F, ((gb zs 0 * 256 + gb zs 1) * 256 + gb zs 2) * 256 + gb zs 3 = F := ⟨_, rfl⟩
  have h1 : ¬ (zs.length : Int) < 40 := by omega
  have l0 : 0 < zs.length := by omega
  have i0 : (0 : Int) < (zs.length : Int) := by omega
  have g0 := gb_range hz 0
  have l1 : 1 < zs.length := by omega
  have i1 : (1 : Int) < (zs.length : Int) := by omega
  have g1 := gb_range hz 1
  have l2 : 2 < zs.length := by omega
  have i2 : (2 : Int) < (zs.length : Int) := by omega
  have g2 := gb_range hz 2
  have l3 : 3 < zs.length := by omega
  have i3 : (3 : Int) < (zs.length : Int) := by omega
  have g3 := gb_range hz 3
  have l4 : 4 < zs.length := by omega
  have i4 : (4 : Int) < (zs.length : Int) := by omega
  have g4 := gb_range hz 4
  have l5 : 5 < zs.length := by omega
  have i5 : (5 : Int) < (zs.length : Int) := by omega
  have g5 := gb_range hz 5
  have l6 : 6 < zs.length := by omega
  have i6 : (6 : Int) < (zs.length : Int) := by omega
  have g6 := gb_range hz 6
  have l7 : 7 < zs.length := by omega
  have i7 : (7 : Int) < (zs.length : Int) := by omega
  have g7 := gb_range hz 7
  have a0 := B8_at00 zs (by omega)
  have a1 := B8_at0 zs 1 (by omega)
  have a2 := B8_at0 zs 2 (by omega)
  have a3 := B8_at0 zs 3 (by omega)
  have a4 := B8_at0 zs 4 (by omega)
  have a5 := B8_at0 zs 5 (by omega)
  have a6 := B8_at0 zs 6 (by omega)
  have a7 := B8_at0 zs 7 (by omega)
  have u0 : IntKind.u64.wrap (gb zs 0) = gb zs 0 := wrapu64_id (by omega) (by omega)
  have u1 : IntKind.u64.wrap (gb zs 1) = gb zs 1 := wrapu64_id (by omega) (by omega)
  have u2 : IntKind.u64.wrap (gb zs 2) = gb zs 2 := wrapu64_id (by omega) (by omega)
  have u3 : IntKind.u64.wrap (gb zs 3) = gb zs 3 := wrapu64_id (by omega) (by omega)
  have u06 : IntKind.u64.wrap 6 = 6 := by decide
  have u00 : IntKind.u64.wrap 0 = 0 := by decide
  have v1 : IntKind.u64.wrap (gb zs 0 * 256) = gb zs 0 * 256 := wrapu64_id (by omega) (by omega)
  have v2 : IntKind.u64.wrap (gb zs 0 * 256 + gb zs 1) = gb zs 0 * 256 + gb zs 1 := wrapu64_id (by omega) (by omega)
  have v3 : IntKind.u64.wrap ((gb zs 0 * 256 + gb zs 1) * 256) = (gb zs 0 * 256 + gb zs 1) * 256 := wrapu64_id (by omega) (by omega)
  have v4 : IntKind.u64.wrap ((gb zs 0 * 256 + gb zs 1) * 256 + gb zs 2) = (gb zs 0 * 256 + gb zs 1) * 256 + gb zs 2 := wrapu64_id (by omega) (by omega)
  have v5 : IntKind.u64.wrap (((gb zs 0 * 256 + gb zs 1) * 256 + gb zs 2) * 256) = ((gb zs 0 * 256 + gb zs 1) * 256 + gb zs 2) * 256 := wrapu64_id (by omega) (by omega)
  have v6 : IntKind.u64.wrap (((gb zs 0 * 256 + gb zs 1) * 256 + gb zs 2) * 256 + gb zs 3) = F := by rw [wrapu64_id (by omega) (by omega), hF]
  have v7 : F.tdiv 268435456 = gb zs 0 / 16 := by rw [Int.tdiv_eq_ediv_of_nonneg (by omega)]; omega
  have v8 : IntKind.u64.wrap (gb zs 0 / 16) = gb zs 0 / 16 := wrapu64_id (by omega) (by omega)
  have w4 : IntKind.i64.wrap (gb zs 4) = gb zs 4 := wrap64_id (by omega) (by omega)
  have w5 : IntKind.i64.wrap (gb zs 5) = gb zs 5 := wrap64_id (by omega) (by omega)
  have w6 : IntKind.i64.wrap (gb zs 4 * 256) = gb zs 4 * 256 := wrap64_id (by omega) (by omega)
  have w7 : IntKind.i64.wrap (gb zs 4 * 256 + gb zs 5) = (len6 zs : Int) := by rw [wrap64_id (by omega) (by omega)]; unfold len6; omega
  have w8 : IntKind.i64.wrap ((zs.length : Int) - 40) = (zs.length : Int) - 40 := wrap64_id (by omega) (by omega)
  have q : (zs.length : Int) - 40 < (len6 zs : Int) := by omega
  unfold runF err6 noH6 ip6A z16
  rw [pvCall_own (fn := Try.f129) rfl Try.func129 rfl (by decide) rfl rfl (by simp)]
  simp -implicitDefEqProofs [h1, splice, loopK_pos, u00, l0, i0, a0, l1, i1, a1, l2, i2, a2, l3, i3, a3, l4, i4, a4, l5, i5, a5, l6, i6, a6, l7, i7, a7, u06, u0, u1, u2, u3, v1, v2, v3, v4, v5, v6, v7, v8, w4, w5, w6, w7, w8, IntKind.bits, B8_cons, h6, q]
set_option maxHeartbeats 8000000 in
theorem rip6_chain (zs : List Int) (nn : Bool) (cap : Option Nat) (h : 40 ≤ zs.length) (hl : zs.length ≤ 500000) (hz : bytesB zs = true) (h6 : gb zs 0 / 16 = 6) (hL : 40 + len6 zs ≤ zs.length) (r1 r2 r3 : Int) (hc : chainF 9 (gb zs 6) ((zs.drop 40).take (len6 zs)) 0 0 = (r1, r2, r3)) 
    (X : AV × List (List AV)) (hX : (¬ r3 = 0 ∧ X = err6 r3) ∨ (r3 = 0 ∧ ∃ n : Nat, r2 = (n : Int) ∧ n ≤ len6 zs ∧ X = ip6R zs r1 n (len6 zs))) : runF Try.prog KC Dm 100000 1 129 [.sl nn (B8 zs) zs.length cap] = some X := by
  obtain ⟨F, hF⟩ : ∃ F, ((gb zs 0 * 256 + gb zs 1) * 256 + gb zs 2) * 256 + gb zs 3 = F := ⟨_, rfl⟩
  have h1 : ¬ (zs.length : Int) < 40 := by omega
  have l0 : 0 < zs.length := by omega
  have i0 : (0 : Int) < (zs.length : Int) := by omega
  have g0 := gb_range hz 0
  have l1 : 1 < zs.length := by omega
  have i1 : (1 : Int) < (zs.length : Int) := by omega
  have g1 := gb_range hz 1
  have l2 : 2 < zs.length := by omega
  have i2 : (2 : Int) < (zs.length : Int) := by omega
  have g2 := gb_range hz 2
  have l3 : 3 < zs.length := by omega
  have i3 : (3 : Int) < (zs.length : Int) := by omega
  have g3 := gb_range hz 3
  have l4 : 4 < zs.length := by omega
  have i4 : (4 : Int) < (zs.length : Int) := by omega
  have g4 := gb_range hz 4
  have l5 : 5 < zs.length := by omega
  have i5 : (5 : Int) < (zs.length : Int) := by omega
  have g5 := gb_range hz 5
  have l6 : 6 < zs.length := by omega
  have i6 : (6 : Int) < (zs.length : Int) := by omega
  have g6 := gb_range hz 6
  have l7 : 7 < zs.length := by omega
  have i7 : (7 : Int) < (zs.length : Int) := by omega
  have g7 := gb_range hz 7
  have a0 := B8_at00 zs (by omega)
  have a1 := B8_at0 zs 1 (by omega)
  have a2 := B8_at0 zs 2 (by omega)
  have a3 := B8_at0 zs 3 (by omega)
  have a4 := B8_at0 zs 4 (by omega)
  have a5 := B8_at0 zs 5 (by omega)
  have a6 := B8_at0 zs 6 (by omega)
  have a7 := B8_at0 zs 7 (by omega)
  have u0 : IntKind.u64.wrap (gb zs 0) = gb zs 0 := wrapu64_id (by omega) (by omega)
  have u1 : IntKind.u64.wrap (gb zs 1) = gb zs 1 := wrapu64_id (by omega) (by omega)
  have u2 : IntKind.u64.wrap (gb zs 2) = gb zs 2 := wrapu64_id (by omega) (by omega)
  have u3 : IntKind.u64.wrap (gb zs 3) = gb zs 3 := wrapu64_id (by omega) (by omega)
  have u06 : IntKind.u64.wrap 6 = 6 := by decide
  have u00 : IntKind.u64.wrap 0 = 0 := by decide
  have v1 : IntKind.u64.wrap (gb zs 0 * 256) = gb zs 0 * 256 := wrapu64_id (by omega) (by omega)
  have v2 : IntKind.u64.wrap (gb zs 0 * 256 + gb zs 1) = gb zs 0 * 256 + gb zs 1 := wrapu64_id (by omega) (by omega)
  have v3 : IntKind.u64.wrap ((gb zs 0 * 256 + gb zs 1) * 256) = (gb zs 0 * 256 + gb zs 1) * 256 := wrapu64_id (by omega) (by omega)
  have v4 : IntKind.u64.wrap ((gb zs 0 * 256 + gb zs 1) * 256 + gb zs 2) = (gb zs 0 * 256 + gb zs 1) * 256 + gb zs 2 := wrapu64_id (by omega) (by omega)
  have v5 : IntKind.u64.wrap (((gb zs 0 * 256 + gb zs 1) * 256 + gb zs 2) * 256) = ((gb zs 0 * 256 + gb zs 1) * 256 + gb zs 2) * 256 := wrapu64_id (by omega) (by omega)
  have v6 : IntKind.u64.wrap (((gb zs 0 * 256 + gb zs 1) * 256 + gb zs 2) * 256 + gb zs 3) = F := by rw [wrapu64_id (by omega) (by omega), hF]
  have v7 : F.tdiv 268435456 = gb zs 0 / 16 := by rw [Int.tdiv_eq_ediv_of_nonneg (by omega)]; omega
  have v8 : IntKind.u64.wrap (gb zs 0 / 16) = gb zs 0 / 16 := wrapu64_id (by omega) (by omega)
  have w4 : IntKind.i64.wrap (gb zs 4) = gb zs 4 := wrap64_id (by omega) (by omega)
  have w5 : IntKind.i64.wrap (gb zs 5) = gb zs 5 := wrap64_id (by omega) (by omega)
  have w6 : IntKind.i64.wrap (gb zs 4 * 256) = gb zs 4 * 256 := wrap64_id (by omega) (by omega)
  have w7 : IntKind.i64.wrap (gb zs 4 * 256 + gb zs 5) = (len6 zs : Int) := by rw [wrap64_id (by omega) (by omega)]; unfold len6; omega
  have w8 : IntKind.i64.wrap ((zs.length : Int) - 40) = (zs.length : Int) - 40 := wrap64_id (by omega) (by omega)
  have q : ¬ (zs.length : Int) - 40 < (len6 zs : Int) := by omega
  have q1 : 40 + (len6 zs : Int) ≤ (zs.length : Int) := by omega
  have hLb : len6 zs ≤ 65535 := by unfold len6; omega
  generalize hLe : len6 zs = L at *
  have q0 : IntKind.i64.wrap (40 + (L : Int)) = 40 + (L : Int) := wrap64_id (by omega) (by omega)
  have q2 : (40 + (L : Int)).toNat = 40 + L := by omega
  have q3 : (0 : Int) ≤ 40 + (L : Int) := by omega
  have q4 : (40 : Int) ≤ 40 + (L : Int) := by omega
  have q5 : L ≤ zs.length - 40 := by omega
  have q6 : L ≤ 1099511627776 := by omega
  have q7 : ((zs.drop 40).take L).length = L := by simp; omega
  have q8 : bytesB ((zs.drop 40).take L) = true := bytesB_take (bytesB_drop hz _) _
  unfold runF
  rw [pvCall_own (fn := Try.f129) rfl Try.func129 rfl (by decide) rfl rfl (by simp)]
  simp -implicitDefEqProofs [h1, splice, loopK_pos, u00, l0, i0, a0, l1, i1, a1, l2, i2, a2, l3, i3, a3, l4, i4, a4, l5, i5, a5, l6, i6, a6, l7, i7, a7, u06, u0, u1, u2, u3, v1, v2, v3, v4, v5, v6, v7, v8, w4, w5, w6, w7, w8, IntKind.bits, h6, q, q0, q1, q2, q3, q4, q5, q6, q7, q8, hc, g6, chainV, hL, fChain]
  rcases hX with ⟨hr, rfl⟩ | ⟨rfl, n, rfl, hn, rfl⟩
  · have hrn : (r3 != 0) = true := by simp [hr]
    unfold err6 noH6 ip6A z16
    simp -implicitDefEqProofs [hr, hrn, splice, B8_cons, u06]
  · have c1 : F.tdiv 1048576 = F / 1048576 := Int.tdiv_eq_ediv_of_nonneg (by omega)
    have c2 : IntKind.u64.wrap (F / 1048576) = F / 1048576 := wrapu64_id (by omega) (by omega)
    have c3 : (F / 1048576).tmod 256 = gb zs 0 % 16 * 16 + gb zs 1 / 16 := by rw [Int.tmod_eq_emod_of_nonneg (by omega)]; omega
    have c4 : IntKind.u64.wrap (gb zs 0 % 16 * 16 + gb zs 1 / 16) = gb zs 0 % 16 * 16 + gb zs 1 / 16 := wrapu64_id (by omega) (by omega)
    have c5 : IntKind.u8.wrap (gb zs 0 % 16 * 16 + gb zs 1 / 16) = gb zs 0 % 16 * 16 + gb zs 1 / 16 := wrapu8_id (by omega) (by omega)
    have c6 : F.tmod 1048576 = gb zs 1 % 16 * 65536 + gb zs 2 * 256 + gb zs 3 := by rw [Int.tmod_eq_emod_of_nonneg (by omega)]; omega
    have c7 : IntKind.u64.wrap (gb zs 1 % 16 * 65536 + gb zs 2 * 256 + gb zs 3) = gb zs 1 % 16 * 65536 + gb zs 2 * 256 + gb zs 3 := wrapu64_id (by omega) (by omega)
    have c8 : IntKind.u32.wrap (gb zs 1 % 16 * 65536 + gb zs 2 * 256 + gb zs 3) = gb zs 1 % 16 * 65536 + gb zs 2 * 256 + gb zs 3 := wrapu32_id (by omega) (by omega)
    obtain ⟨S, hS⟩ : ∃ S, (zs.drop 8).take 16 = S := ⟨_, rfl⟩
    obtain ⟨E, hE⟩ : ∃ E, (zs.drop 24).take 16 = E := ⟨_, rfl⟩
    have hSl : S.length = 16 := by rw [← hS]; simp; omega
    have hEl : E.length = 16 := by rw [← hE]; simp; omega
    have n6 : min n (zs.length - 40) = n := by omega
    have n7 : min (L - n) (zs.length - (40 + n)) = L - n := by omega
    have n8 : n ≤ 549755813888 := by omega
    have n9 : L - n ≤ 549755813888 := by omega
    have n12 : n ≤ L := hn
    have n13 : n ≤ zs.length - 40 := by omega
    have n14 : L - n ≤ zs.length - (40 + n) := by omega
    have n15 : ((zs.drop 40).take L).take n = (zs.drop 40).take n := by rw [List.take_take, Nat.min_eq_left hn]
    have n16 : ((zs.drop 40).take L).drop n = (zs.drop (40 + n)).take (L - n) := by rw [List.drop_take, List.drop_drop]
    have n17 : ((zs.drop 40).take n).take n = (zs.drop 40).take n := List.take_of_length_le (by simp; omega)
    have n18 : ((zs.drop (40 + n)).take (L - n)).take (L - n) = (zs.drop (40 + n)).take (L - n) := List.take_of_length_le (by simp; omega)
    have n19 : (n : Int) ≤ (L : Int) := by omega
    unfold ip6R ip6A
    simp -implicitDefEqProofs [h, h1, splice, loopK_pos, u00, l0, i0, a0, l1, i1, a1, l2, i2, a2, l3, i3, a3, l4, i4, a4, l5, i5, a5, l6, i6, a6, l7, i7, a7, u06, u0, u1, u2, u3, v1, v2, v3, v4, v5, v6, v7, v8, w4, w5, w6, w7, w8, IntKind.bits, hL, B8_cons, c1, c2, c3, c4, c5, c6, c7, c8, hS, hE, hSl, hEl, n6, n7, n8, n9, n12, n13, n14, n15, n16, n17, n18, n19, q1, q2, q3, fSixt, B8t16 hSl, B8d16 hSl, B8t16 hEl, B8d16 hEl, B8t33 hSl, B8t17 hEl, B8d32 hSl, B8d32 hEl, B8t32 hSl, B8d33 hSl, B8d17 hEl, B8x33 hSl hEl, B8x33d hSl hEl, Nat.testBit_eq_decide_div_mod_eq]
theorem rip6_pure : Pure Try.prog 129 fIP6 := (runF_pure kc_ok follows_mixed dm_ok 100000 1 129).weaken fun args r h => by
  unfold fIP6 at h
  split at h
  · rename_i nn b len cap
    obtain ⟨zs, hz, he⟩ := Option.bind_eq_some_iff.1 h
    clear h
    split at he
    case isFalse => cases he
    rename_i hh
    obtain ⟨rfl, h1, h2⟩ := hh
    obtain rfl := asB8_eq hz
    rw [← he]
    unfold ip6V
    split
    · rename_i q; exact rip6_short zs nn cap q
    split
    · rename_i q0 q; exact rip6_form zs nn cap (by omega) h1 h2 q
    split
    · rename_i q0 q1 q; exact rip6_short2 zs nn cap (by omega) h1 h2 (by omega) q
    · rename_i q0 q1 q2
      exact rip6_chain zs nn cap (by omega) h1 h2 (by omega) (by omega) _ _ _ rfl _ (chain6_out h2 (by omega) _ rfl)
  · cases h
end Go.Proofs.Ytmdafjegddnecaa
