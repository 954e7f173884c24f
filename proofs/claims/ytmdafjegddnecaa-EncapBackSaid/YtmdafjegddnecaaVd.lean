/- ICMP's checksums and kinds of errors as functions of values. -/
import Derived.Test.YtmdafjegddnecaaJa
import Derived.Test.YtmdafjegddnecaaQc
namespace Go.Proofs.Ytmdafjegddnecaa
open Go.RowKit Go.Pm Go.Wb
set_option linter.unusedVariables false
set_option linter.unusedSimpArgs false
set_option maxRecDepth 1000000
def fPse : Fun
  | [.v (.bool v6), .agg a, .agg b, .v (.int .u8 pr), .v (.int .i64 n)] => (asB8 a).bind fun ss => (asB8 b).bind fun ds => if ss.length = 16 ∧ ds.length = 16 ∧ bytesB ss = true ∧ bytesB ds = true ∧ 0 ≤ pr ∧ pr ≤ 255 ∧ 0 ≤ n ∧ n ≤ 9223372036854775807 then
      some (.agg [.v (.int .u16 (sumTo 0 false (phead v6 ss ds pr n))), .v (.bool false)], []) else none
  | _ => none
theorem pse_pure : Pure Try.prog 119 fPse := pure_plain fun w args vs r bs ra hr => by
  unfold fPse at hr
  split at hr
  · rename_i v6 a b pr n
    obtain ⟨ss, h1, hr⟩ := Option.bind_eq_some_iff.1 hr
    obtain ⟨ds, h2, hr⟩ := Option.bind_eq_some_iff.1 hr
    split at hr
    case isFalse => cases hr
    rename_i hh
    obtain ⟨hs, hd, b1, b2, p0, p1, n0, n1⟩ := hh
    cases hr
    obtain rfl := asB8_eq h1
    obtain rfl := asB8_eq h2
    obtain ⟨x0, l0, e0, r0, ra⟩ := ra.inv_cons
    obtain ⟨x1, l1, rfl, r1, ra⟩ := ra.inv_cons
    obtain ⟨x2, l2, rfl, r2, ra⟩ := ra.inv_cons
    obtain ⟨x3, l3, rfl, r3, ra⟩ := ra.inv_cons
    obtain ⟨x4, l4, rfl, r4, ra⟩ := ra.inv_cons
    obtain rfl := ra.inv_nil
    obtain rfl := ar_of r1
    obtain rfl := ar_of r2
    obtain rfl := r0.inv_v.1
    obtain rfl := r3.inv_v.1
    obtain rfl := r4.inv_v.1
    obtain rfl : vs = #[.bool v6, .agg (ar ss), .agg (ar ds), .int .u8 pr, .int .i64 n] := by
      cases vs; simp at e0; rw [e0]
    refine ⟨rfl, (pseudo_any v6 ss ds pr n w hs hd (bytesB_iff.1 b1) (bytesB_iff.1 b2) p0 p1 n0 n1).mono ?_⟩
    rintro e w' ⟨rfl, hb⟩
    exact ⟨_, rfl, hb, .mkAgg (.cons .v (.cons .v (.nil _)))⟩
  · cases hr
theorem part_of {c : Ctx} {s : Int} {o : Bool} {v : Value} (r : Rel c (.agg [.v (.int .u16 s), .v (.bool o)]) v) : v = .agg #[.int .u16 s, .bool o] := by
  obtain ⟨cs, rfl, rl⟩ := r.inv_agg
  obtain ⟨y0, l0, e, q0, rl⟩ := rl.inv_cons
  obtain ⟨y1, l1, rfl, q1, rl⟩ := rl.inv_cons
  obtain rfl := rl.inv_nil
  obtain rfl := q0.inv_v.1
  obtain rfl := q1.inv_v.1
  cases cs; simp at e; rw [e]
def fAdd : Fun
  | [.agg [.v (.int .u16 s), .v (.bool o)], .sl nn b len cap] => (asB8 b).bind fun zs => if zs.length = len ∧ len ≤ 1099511627776 ∧ bytesB zs = true ∧ 0 ≤ s ∧ s ≤ 65535 then some (.agg [.v (.int .u16 (sumTo s o zs)), .v (.bool (par o len))], []) else none
  | _ => none
theorem add_pure : Pure Try.prog 118 fAdd := pure_plain fun w args vs r bs ra hr => by
  unfold fAdd at hr
  split at hr
  · rename_i s o nn b len cap
    obtain ⟨zs, h1, hr⟩ := Option.bind_eq_some_iff.1 hr
    split at hr
    case isFalse => cases hr
    rename_i hh
    obtain ⟨hz, hl, bz, s0, s1⟩ := hh
    cases hr
    obtain rfl := asB8_eq h1
    obtain ⟨x0, l0, e0, r0, ra⟩ := ra.inv_cons
    obtain ⟨x1, l1, rfl, r1, ra⟩ := ra.inv_cons
    obtain rfl := ra.inv_nil
    obtain rfl := part_of r0
    obtain ⟨a, cp, rfl, hrow⟩ := row_of r1 hz (bytesB_iff.1 bz)
    obtain rfl : vs = #[.agg #[.int .u16 s, .bool o], .slice a len cp] := by
      cases vs; simp at e0; rw [e0]
    refine ⟨rfl, (add_row hrow hl s o s0 s1).mono ?_⟩
    rintro e w' ⟨rfl, hb⟩
    exact ⟨_, rfl, hb, .mkAgg (.cons .v (.cons .v (.nil _)))⟩
  · cases hr
def fEnd : Fun
  | [.agg [.v (.int .u16 s), .v (.bool o)]] => if 0 ≤ s ∧ s ≤ 65535 then some (.v (.int .u16 (65535 - s)), []) else none
  | _ => none
theorem end_pure : Pure Try.prog 117 fEnd := pure_plain fun w args vs r bs ra hr => by
  unfold fEnd at hr
  split at hr
  · rename_i s o
    split at hr
    case isFalse => cases hr
    rename_i hh
    cases hr
    obtain ⟨x0, l0, e0, r0, ra⟩ := ra.inv_cons
    obtain rfl := ra.inv_nil
    obtain rfl := part_of r0
    obtain rfl : vs = #[.agg #[.int .u16 s, .bool o]] := by
      cases vs; simp at e0; rw [e0]
    refine ⟨rfl, (end_any s o w hh.1 hh.2).mono ?_⟩
    rintro e w' ⟨rfl, hb⟩
    exact ⟨_, rfl, hb, .v⟩
  · cases hr
noncomputable def KN : Nat → Option Con
  | 119 => some fPse
  | 118 => some fAdd
  | 117 => some fEnd
  | 59 => some fSealed
  | 142 => some fOf
  | _ => none
theorem kn_ok : KOk Try.prog KN := fun f F h => by
  unfold KN at h
  split at h
  · cases h; exact ⟨pse_pure, _, Try.func119, rfl, by decide⟩
  · cases h; exact ⟨add_pure, _, Try.func118, rfl, by decide⟩
  · cases h; exact ⟨end_pure, _, Try.func117, rfl, by decide⟩
  · cases h; exact ⟨right_pure, _, Try.func59, rfl, by decide⟩
  · cases h; exact ⟨rof_pure, _, Try.func142, rfl, by decide⟩
  · cases h
section
variable {D : FuncId → Nat → List Nat} {L d px : Nat} {args : List AV} {m : Mem}
theorem ckn_pse : pvCall Try.prog KN D L d px 119 args m = callBy fPse m px args := pvCall_by rfl
theorem ckn_add : pvCall Try.prog KN D L d px 118 args m = callBy fAdd m px args := pvCall_by rfl
theorem ckn_end : pvCall Try.prog KN D L d px 117 args m = callBy fEnd m px args := pvCall_by rfl
theorem ckn_sright : pvCall Try.prog KN D L d px 59 args m = callBy fSealed m px args := pvCall_by rfl
theorem ckn_rof : pvCall Try.prog KN D L d px 142 args m = callBy fOf m px args := pvCall_by rfl
end
theorem ekn_pse : KN 119 = some (.pure fPse) := rfl
theorem ekn_add : KN 118 = some (.pure fAdd) := rfl
theorem ekn_end : KN 117 = some (.pure fEnd) := rfl
theorem ekn_sright : KN 59 = some (.pure fSealed) := rfl
theorem ekn_rof : KN 142 = some (.pure fOf) := rfl
attribute [simp] ckn_pse ekn_pse ckn_add ekn_add ckn_end ekn_end ckn_sright ekn_sright ckn_rof ekn_rof
/-- The checksum of a message. -/
def skV (v6 : Bool) (ss ds zs : List Int) : Int := if v6 = true then ck true ss ds 58 zs else ofV zs
def goodM (ss ds zs : List Int) (len : Nat) : Prop := zs.length = len ∧ len ≤ 500000 ∧ ss.length = 16 ∧ ds.length = 16 ∧ bytesB zs = true ∧ bytesB ss = true ∧ bytesB ds = true
instance (ss ds zs : List Int) (len : Nat) : Decidable (goodM ss ds zs len) := by unfold goodM; infer_instance
set_option maxHeartbeats 4000000 in
theorem sealed6_run (v6 : Bool) (ss ds zs : List Int) (nn : Bool) (cap : Option Nat) (hg : goodM ss ds zs zs.length) : runF Try.prog KN Dm 100000 1 115 [.v (.bool v6), .agg (B8 ss), .agg (B8 ds), .sl nn (B8 zs) zs.length cap] = some (.v (.int .u16 (skV v6 ss ds zs)), []) := by
  obtain ⟨_, hl, hs, hd, hz, bs, bd⟩ := hg
  have l40 : zs.length ≤ 1099511627776 := by omega
  have l64 : (zs.length : Int) ≤ 9223372036854775807 := by omega
  have t1 : ss.take 16 = ss := List.take_of_length_le (by omega)
  have t2 : ds.take 16 = ds := List.take_of_length_le (by omega)
  have p := sumTo_range (s := 0) (o := false) (Int.le_refl 0) (phead_b (v6 := true) (pr := 58) (n := (zs.length : Int)) (bytesB_iff.1 bs) (bytesB_iff.1 bd) (by omega) (by omega))
  have q := sumTo_range (s := 0) (o := false) (Int.le_refl 0) (bytesB_iff.1 hz)
  have r := sumTo_range (o := false) p.1 (bytesB_iff.1 hz)
  unfold runF skV ck ofV
  rw [pvCall_own (fn := Try.f115) rfl Try.func115 rfl (by decide) rfl rfl (by simp)]
  cases v6 with
  | true => simp -implicitDefEqProofs [fPse, fAdd, fEnd, hs, hd, hz, bs, bd, l40, l64, t1, t2, p, r, splice]
  | false => simp -implicitDefEqProofs [fAdd, fEnd, hz, l40, q, splice]
set_option maxHeartbeats 4000000 in
theorem rright_run (v6 : Bool) (ss ds zs : List Int) (nn : Bool) (cap : Option Nat) (hg : goodM ss ds zs zs.length) : runF Try.prog KN Dm 100000 1 131 [.v (.bool v6), .agg (B8 ss), .agg (B8 ds), .sl nn (B8 zs) zs.length cap] = some (.v (.int .u16 (skV v6 ss ds zs)), []) := by
  obtain ⟨_, hl, hs, hd, hz, bs, bd⟩ := hg
  have l40 : zs.length ≤ 1099511627776 := by omega
  have t1 : ss.take 16 = ss := List.take_of_length_le (by omega)
  have t2 : ds.take 16 = ds := List.take_of_length_le (by omega)
  unfold runF skV
  rw [pvCall_own (fn := Try.f131) rfl Try.func131 rfl (by decide) rfl rfl (by simp)]
  cases v6 with
  | true => simp -implicitDefEqProofs [fSealed, fCk, hs, hd, hz, bs, bd, l40, t1, t2, splice]
  | false => simp -implicitDefEqProofs [fOf, hz, l40, splice]
def fSk : Fun
  | [.v (.bool v6), .agg a, .agg b, .sl nn c len cap] => (asB8 a).bind fun ss => (asB8 b).bind fun ds => (asB8 c).bind fun zs => if goodM ss ds zs len then some (.v (.int .u16 (skV v6 ss ds zs)), []) else none
  | _ => none
theorem sk_pure : Pure Try.prog 115 fSk := (runF_pure kn_ok follows_mixed dm_ok 100000 1 115).weaken fun args r h => by
  unfold fSk at h
  split at h
  · rename_i v6 a b nn c len cap
    obtain ⟨ss, e1, h1⟩ := Option.bind_eq_some_iff.1 h
    obtain ⟨ds, e2, h2⟩ := Option.bind_eq_some_iff.1 h1
    obtain ⟨zs, e3, he⟩ := Option.bind_eq_some_iff.1 h2
    clear h h1 h2
    split at he
    case isFalse => cases he
    rename_i hh
    obtain rfl := hh.1
    obtain rfl := asB8_eq e1
    obtain rfl := asB8_eq e2
    obtain rfl := asB8_eq e3
    rw [← he]
    exact sealed6_run v6 ss ds zs nn cap hh
  · cases h
theorem rsk_pure : Pure Try.prog 131 fSk := (runF_pure kn_ok follows_mixed dm_ok 100000 1 131).weaken fun args r h => by
  unfold fSk at h
  split at h
  · rename_i v6 a b nn c len cap
    obtain ⟨ss, e1, h1⟩ := Option.bind_eq_some_iff.1 h
    obtain ⟨ds, e2, h2⟩ := Option.bind_eq_some_iff.1 h1
    obtain ⟨zs, e3, he⟩ := Option.bind_eq_some_iff.1 h2
    clear h h1 h2
    split at he
    case isFalse => cases he
    rename_i hh
    obtain rfl := hh.1
    obtain rfl := asB8_eq e1
    obtain rfl := asB8_eq e2
    obtain rfl := asB8_eq e3
    rw [← he]
    exact rright_run v6 ss ds zs nn cap hh
  · cases h
theorem runF_plain' {P : Program} {K : FuncId → Option Con} {D : FuncId → Nat → List Nat} {L d : Nat} {f : FuncId} {args : List AV} {x : Value} (h : (pvCall P K D L d 0 f args (fun _ => none)).map (·.1) = some (.v x)) : runF P K D L d f args = some (.v x, []) := by
  obtain ⟨⟨y, m'⟩, h1, h2⟩ := Option.map_eq_some_iff.1 h
  simp only at h2
  subst h2
  unfold runF
  rw [h1]
  simp
/-- Is a type an error's? -/
def isE (v6 : Bool) (k : Int) : Bool := if v6 = true then (k == 1 || k == 2 || k == 3 || k == 4) else (k == 3 || k == 4 || k == 5 || k == 11 || k == 12)
set_option maxHeartbeats 16000000 in
theorem ise_run (v6 : Bool) (k : Int) : runF Try.prog K0 Dm 100000 2 109 [.v (.bool v6), .v (.int .u8 k)] = some (.v (.bool (isE v6 k)), []) := by
  have one := fun (px : Nat) (args : List AV) (m : Mem) (hl : args.length ≤ 16) => pvCall_own (P := Try.prog) (K := K0) (D := Dm) (L := 100000) (d := 0) (px := px) (args := args) (m := m) (f := 144) (fn := Try.f144) rfl Try.func144 rfl (by decide) rfl rfl hl
  apply runF_plain'
  rw [pvCall_own (fn := Try.f109) rfl Try.func109 rfl (by decide) rfl rfl (by simp)]
  cases v6 with
  | true =>
    by_cases h1 : k = 1
    · subst h1; simp -implicitDefEqProofs [one, isE, loopK_pos, splice]
    have e1 : (k == 1) = false := by simp [h1]
    have f1 : (1 == k) = false := by simp; omega
    have g1 : ¬ 1 = k := by omega
    by_cases h2 : k = 2
    · subst h2; simp -implicitDefEqProofs [one, isE, loopK_pos, splice, h1, e1, f1, g1]
    have e2 : (k == 2) = false := by simp [h2]
    have f2 : (2 == k) = false := by simp; omega
    have g2 : ¬ 2 = k := by omega
    by_cases h3 : k = 3
    · subst h3; simp -implicitDefEqProofs [one, isE, loopK_pos, splice, h1, e1, f1, g1, h2, e2, f2, g2]
    have e3 : (k == 3) = false := by simp [h3]
    have f3 : (3 == k) = false := by simp; omega
    have g3 : ¬ 3 = k := by omega
    by_cases h4 : k = 4
    · subst h4; simp -implicitDefEqProofs [one, isE, loopK_pos, splice, h1, e1, f1, g1, h2, e2, f2, g2, h3, e3, f3, g3]
    have e4 : (k == 4) = false := by simp [h4]
    have f4 : (4 == k) = false := by simp; omega
    have g4 : ¬ 4 = k := by omega
    simp -implicitDefEqProofs [one, isE, loopK_pos, splice, h1, e1, f1, g1, h2, e2, f2, g2, h3, e3, f3, g3, h4, e4, f4, g4]
  | false =>
    by_cases h3 : k = 3
    · subst h3; simp -implicitDefEqProofs [one, isE, loopK_pos, splice]
    have e3 : (k == 3) = false := by simp [h3]
    have f3 : (3 == k) = false := by simp; omega
    have g3 : ¬ 3 = k := by omega
    by_cases h4 : k = 4
    · subst h4; simp -implicitDefEqProofs [one, isE, loopK_pos, splice, h3, e3, f3, g3]
    have e4 : (k == 4) = false := by simp [h4]
    have f4 : (4 == k) = false := by simp; omega
    have g4 : ¬ 4 = k := by omega
    by_cases h5 : k = 5
    · subst h5; simp -implicitDefEqProofs [one, isE, loopK_pos, splice, h3, e3, f3, g3, h4, e4, f4, g4]
    have e5 : (k == 5) = false := by simp [h5]
    have f5 : (5 == k) = false := by simp; omega
    have g5 : ¬ 5 = k := by omega
    by_cases h11 : k = 11
    · subst h11; simp -implicitDefEqProofs [one, isE, loopK_pos, splice, h3, e3, f3, g3, h4, e4, f4, g4, h5, e5, f5, g5]
    have e11 : (k == 11) = false := by simp [h11]
    have f11 : (11 == k) = false := by simp; omega
    have g11 : ¬ 11 = k := by omega
    by_cases h12 : k = 12
    · subst h12; simp -implicitDefEqProofs [one, isE, loopK_pos, splice, h3, e3, f3, g3, h4, e4, f4, g4, h5, e5, f5, g5, h11, e11, f11, g11]
    have e12 : (k == 12) = false := by simp [h12]
    have f12 : (12 == k) = false := by simp; omega
    have g12 : ¬ 12 = k := by omega
    simp -implicitDefEqProofs [one, isE, loopK_pos, splice, h3, e3, f3, g3, h4, e4, f4, g4, h5, e5, f5, g5, h11, e11, f11, g11, h12, e12, f12, g12]
set_option maxHeartbeats 16000000 in
theorem rise_run (v6 : Bool) (k : Int) (k0 : 0 ≤ k) : runF Try.prog K0 Dm 100000 1 111 [.v (.bool v6), .v (.int .u8 k)] = some (.v (.bool (isE v6 k)), []) := by
  apply runF_plain'
  rw [pvCall_own (fn := Try.f111) rfl Try.func111 rfl (by decide) rfl rfl (by simp)]
  cases v6 with
  | true =>
    by_cases h : 1 ≤ k
    · by_cases h4 : k ≤ 4
      · have : isE true k = true := by unfold isE; simp; omega
        simp -implicitDefEqProofs [h, h4, this]
      · have : isE true k = false := by unfold isE; simp; omega
        simp -implicitDefEqProofs [h, h4, this]
    · have : isE true k = false := by unfold isE; simp; omega
      simp -implicitDefEqProofs [h, this]
  | false =>
    by_cases h3 : k = 3
    · subst h3; simp -implicitDefEqProofs [isE, loopK_pos, splice]
    have e3 : (k == 3) = false := by simp [h3]
    have f3 : (3 == k) = false := by simp; omega
    have g3 : ¬ 3 = k := by omega
    by_cases h4 : k = 4
    · subst h4; simp -implicitDefEqProofs [isE, loopK_pos, splice, h3, e3, f3, g3]
    have e4 : (k == 4) = false := by simp [h4]
    have f4 : (4 == k) = false := by simp; omega
    have g4 : ¬ 4 = k := by omega
    by_cases h5 : k = 5
    · subst h5; simp -implicitDefEqProofs [isE, loopK_pos, splice, h3, e3, f3, g3, h4, e4, f4, g4]
    have e5 : (k == 5) = false := by simp [h5]
    have f5 : (5 == k) = false := by simp; omega
    have g5 : ¬ 5 = k := by omega
    by_cases h11 : k = 11
    · subst h11; simp -implicitDefEqProofs [isE, loopK_pos, splice, h3, e3, f3, g3, h4, e4, f4, g4, h5, e5, f5, g5]
    have e11 : (k == 11) = false := by simp [h11]
    have f11 : (11 == k) = false := by simp; omega
    have g11 : ¬ 11 = k := by omega
    by_cases h12 : k = 12
    · subst h12; simp -implicitDefEqProofs [isE, loopK_pos, splice, h3, e3, f3, g3, h4, e4, f4, g4, h5, e5, f5, g5, h11, e11, f11, g11]
    have e12 : (k == 12) = false := by simp [h12]
    have f12 : (12 == k) = false := by simp; omega
    have g12 : ¬ 12 = k := by omega
    simp -implicitDefEqProofs [isE, loopK_pos, splice, h3, e3, f3, g3, h4, e4, f4, g4, h5, e5, f5, g5, h11, e11, f11, g11, h12, e12, f12, g12]
def fIse : Fun
  | [.v (.bool v6), .v (.int .u8 k)] => if 0 ≤ k then some (.v (.bool (isE v6 k)), []) else none
  | _ => none
theorem ise_pure : Pure Try.prog 109 fIse := (runF_pure k0_ok follows_mixed dm_ok 100000 2 109).weaken fun args r h => by
  unfold fIse at h
  split at h
  · split at h
    · rw [← h]; exact ise_run _ _
    · cases h
  · cases h
theorem rise_pure : Pure Try.prog 111 fIse := (runF_pure k0_ok follows_mixed dm_ok 100000 1 111).weaken fun args r h => by
  unfold fIse at h
  split at h
  · split at h
    · rename_i q; rw [← h]; exact rise_run _ _ q
    · cases h
  · cases h
end Go.Proofs.Ytmdafjegddnecaa
