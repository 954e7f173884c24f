/- icmp.Write and the reference's as functions of values. -/
import Derived.Test.YtmdafjegddnecaaMu
import Derived.Test.YtmdafjegddnecaaMx
namespace Go.Proofs.Ytmdafjegddnecaa
open Go.Pm Go.Wb
set_option linter.unusedVariables false
set_option linter.unusedSimpArgs false
set_option maxRecDepth 1000000
noncomputable def KW6 : Nat → Option Con
  | 115 => some fSk
  | 131 => some fSk
  | 109 => some fIse
  | 111 => some fIse
  | _ => none
theorem kw6_ok : KOk Try.prog KW6 := fun f F h => by
  unfold KW6 at h
  split at h
  · cases h; exact ⟨sk_pure, _, Try.func115, rfl, by decide⟩
  · cases h; exact ⟨rsk_pure, _, Try.func131, rfl, by decide⟩
  · cases h; exact ⟨ise_pure, _, Try.func109, rfl, by decide⟩
  · cases h; exact ⟨rise_pure, _, Try.func111, rfl, by decide⟩
  · cases h
section
variable {D : FuncId → Nat → List Nat} {L d px : Nat} {args : List AV} {m : Mem}
theorem ckw6_sealed : pvCall Try.prog KW6 D L d px 115 args m = callBy fSk m px args := pvCall_by rfl
theorem ckw6_right : pvCall Try.prog KW6 D L d px 131 args m = callBy fSk m px args := pvCall_by rfl
theorem ckw6_ise : pvCall Try.prog KW6 D L d px 109 args m = callBy fIse m px args := pvCall_by rfl
theorem ckw6_rise : pvCall Try.prog KW6 D L d px 111 args m = callBy fIse m px args := pvCall_by rfl
end
theorem ekw6_sealed : KW6 115 = some (.pure fSk) := rfl
theorem ekw6_right : KW6 131 = some (.pure fSk) := rfl
theorem ekw6_ise : KW6 109 = some (.pure fIse) := rfl
theorem ekw6_rise : KW6 111 = some (.pure fIse) := rfl
attribute [simp] ckw6_sealed ekw6_sealed ckw6_right ekw6_right ckw6_ise ekw6_ise ckw6_rise ekw6_rise
theorem skV_range {v6 : Bool} {ss ds zs : List Int} (hz : bytesB zs = true) (bs : bytesB ss = true) (bd : bytesB ds = true) : 0 ≤ skV v6 ss ds zs ∧ skV v6 ss ds zs ≤ 65535 := by
  cases v6 with
  | false => exact ofV_range hz
  | true => exact ck_range (bytesB_iff.1 hz) (sumTo_range (s := 0) (o := false) (Int.le_refl 0) (phead_b (v6 := true) (pr := 58) (n := (zs.length : Int)) (bytesB_iff.1 bs) (bytesB_iff.1 bd) (by omega) (by omega))).1
def w6E (e : Int) : AV × List (List AV) := (.tup [.v (.slice none 0 0), .v (.int .i64 e)], [])
def w6C (W : List Int) : AV × List (List AV) := (.tup [.own 0 0 0 W.length 1 (.whole 5), .v (.int .i64 0)], [B8 W])
/-- A message with its checksum's place full. -/
def w6M (k c K : Int) (h ps : List Int) : List Int := k :: c :: K / 256 :: K % 256 :: (h ++ ps)
def iwV (v6 : Bool) (ss ds : List Int) (k c : Int) (h ps : List Int) : AV × List (List AV) := if isE v6 k = false then w6E 10 else if 1652 < ps.length then w6E 3 else w6C (w6M k c (skV v6 ss ds (k :: c :: 0 :: 0 :: (h ++ ps))) h ps)
def goodIW (k c : Int) (ss ds h ps : List Int) (len : Nat) : Prop := ps.length = len ∧ len ≤ 500000 ∧ ss.length = 16 ∧ ds.length = 16 ∧ h.length = 4 ∧ bytesB ps = true ∧ bytesB ss = true ∧ bytesB ds = true ∧ bytesB h = true ∧ 0 ≤ k ∧ k ≤ 255 ∧ 0 ≤ c ∧ c ≤ 255
instance (k c : Int) (ss ds h ps : List Int) (len : Nat) : Decidable (goodIW k c ss ds h ps len) := by unfold goodIW; infer_instance
set_option maxHeartbeats 16000000 in
theorem write6_run (v6 : Bool) (ss ds : List Int) (k c : Int) (h ps : List Int) (nn : Bool) (cap : Option Nat) (hg : goodIW k c ss ds h ps ps.length) : runF Try.prog KW6 Dm 100000 1 110 [.v (.bool v6), .agg (B8 ss), .agg (B8 ds), .v (.int .u8 k), .v (.int .u8 c), .agg (B8 h), .sl nn (B8 ps) ps.length cap] = some (iwV v6 ss ds k c h ps) := by
  obtain ⟨_, hl, hs, hd, hh, hz, bs, bd, bh, k0, k1, c0, c1⟩ := id hg
  have t1 : ss.take 16 = ss := List.take_of_length_le (by omega)
  have t2 : ds.take 16 = ds := List.take_of_length_le (by omega)
  have t3 : h.take 4 = h := List.take_of_length_le (by omega)
  have e1 : IntKind.i64.wrap (8 + (ps.length : Int)) = 8 + (ps.length : Int) := wrap64_id (by omega) (by omega)
  unfold runF iwV
  rw [pvCall_own (fn := Try.f110) rfl Try.func110 rfl (by decide) rfl rfl (by simp)]
  by_cases he : isE v6 k = false
  · simp -implicitDefEqProofs [he, k0, fIse, t1, t2, t3, hs, hd, hh, w6E, splice]
  have he : isE v6 k = true := by simpa using he
  by_cases h3 : 1652 < ps.length
  · have i3 : (1660 : Int) < 8 + (ps.length : Int) := by omega
    have j3 : (1652 : Int) < (ps.length : Int) := by omega
    simp -implicitDefEqProofs [he, k0, fIse, t1, t2, t3, hs, hd, hh, w6E, splice, e1, h3, i3, j3]
  have i3 : ¬ (1660 : Int) < 8 + (ps.length : Int) := by omega
  have j3 : ¬ (1652 : Int) < (ps.length : Int) := by omega
  obtain ⟨x, y, z, u, rfl⟩ : ∃ x y z u, h = [x, y, z, u] := by
    match h, hh with
    | [x, y, z, u], _ => exact ⟨x, y, z, u, rfl⟩
  have q1 : ([x, y, z, u] ++ ps).length = 4 + ps.length := by simp; omega
  have q2 : bytesB ([x, y, z, u] ++ ps) = true := by rw [bytesB_append, bh, hz]; rfl
  have q3 : ps.length ≤ 549755813888 := by omega
  have q4 : 4 + ps.length ≤ 549755813888 := by omega
  have q5 : 4 + 4 + ps.length ≤ 549755813888 := by omega
  have q6 : 8 + ps.length ≤ 549755813888 := by omega
  have q7 : 4 + (4 + ps.length) ≤ 549755813888 := by omega
  have q8 : ps.take ps.length = ps := List.take_length
  have q9 : ([x, y, z, u] ++ ps).take (4 + ps.length) = [x, y, z, u] ++ ps := List.take_of_length_le (by omega)
  generalize hX : [x, y, z, u] ++ ps = X at *
  have hF : AV.v (.int .u8 x) :: AV.v (.int .u8 y) :: AV.v (.int .u8 z) :: AV.v (.int .u8 u) :: B8 ps = B8 X := by rw [← hX]; rfl
  have q10 : 4 + (4 + ps.length) = 8 + ps.length := by omega
  have q11 : (2 : Int) < 8 + (ps.length : Int) := by omega
  have q12 : (3 : Int) < 8 + (ps.length : Int) := by omega
  have tX : ∀ a b c d : AV, (a :: b :: c :: d :: B8 X).take (8 + ps.length) = a :: b :: c :: d :: B8 X := fun _ _ _ _ => List.take_of_length_le (by simp [q1]; omega)
  have tY : ∀ a b c d : AV, (a :: b :: c :: d :: B8 ps).take (4 + ps.length) = a :: b :: c :: d :: B8 ps := fun _ _ _ _ => List.take_of_length_le (by simp; omega)
  have hgm : goodM ss ds (k :: c :: 0 :: 0 :: X) (8 + ps.length) := ⟨by simp [q1]; omega, by omega, hs, hd, by simp only [bytesB_cons, q2]; simp [k0, k1, c0, c1], bs, bd⟩
  have hK := skV_range (v6 := v6) hgm.2.2.2.2.1 bs bd
  generalize hKe : skV v6 ss ds (k :: c :: 0 :: 0 :: X) = K at *
  have r1 : K.fdiv 256 = K / 256 := Int.fdiv_eq_ediv_of_nonneg _ (by omega)
  have r2 : K.tdiv 256 = K / 256 := Int.tdiv_eq_ediv_of_nonneg (by omega)
  have r3 : K.tmod 256 = K % 256 := Int.tmod_eq_emod_of_nonneg (by omega)
  have r4 : IntKind.u8.wrap (K / 256) = K / 256 := wrapu8_id (by omega) (by omega)
  have r5 : IntKind.u8.wrap (K % 256) = K % 256 := wrapu8_id (by omega) (by omega)
  have r6 : IntKind.u8.wrap K = K % 256 := by simp [IntKind.wrap, IntKind.signed, IntKind.bits]
  have r7 : IntKind.u16.wrap (K / 256) = K / 256 := wrapu16_id (by omega) (by omega)
  have r8 : IntKind.u16.wrap (K % 256) = K % 256 := wrapu16_id (by omega) (by omega)
  simp -implicitDefEqProofs [he, k0, fIse, fSk, t1, t2, hs, hd, splice, e1, h3, i3, j3, q1, q2, q3, q4, q5, q6, q7, q8, q9, q10, q11, q12, hKe, hX, hF, tX, tY, hgm, r1, r2, r3, r4, r5, r6, r7, r8, w6C, w6M, B8vc, B8vn, asB8_nil'', asB8_cons'', IntKind.bits, Nat.testBit_eq_decide_div_mod_eq]
  all_goals omega
set_option maxHeartbeats 16000000 in
theorem rwrite6_run (v6 : Bool) (ss ds : List Int) (k c : Int) (h ps : List Int) (nn : Bool) (cap : Option Nat) (hg : goodIW k c ss ds h ps ps.length) : runF Try.prog KW6 Dm 100000 1 112 [.v (.bool v6), .agg (B8 ss), .agg (B8 ds), .v (.int .u8 k), .v (.int .u8 c), .agg (B8 h), .sl nn (B8 ps) ps.length cap] = some (iwV v6 ss ds k c h ps) := by
  obtain ⟨_, hl, hs, hd, hh, hz, bs, bd, bh, k0, k1, c0, c1⟩ := id hg
  have t1 : ss.take 16 = ss := List.take_of_length_le (by omega)
  have t2 : ds.take 16 = ds := List.take_of_length_le (by omega)
  have t3 : h.take 4 = h := List.take_of_length_le (by omega)
  have e1 : IntKind.i64.wrap (8 + (ps.length : Int)) = 8 + (ps.length : Int) := wrap64_id (by omega) (by omega)
  unfold runF iwV
  rw [pvCall_own (fn := Try.f112) rfl Try.func112 rfl (by decide) rfl rfl (by simp)]
  by_cases he : isE v6 k = false
  · simp -implicitDefEqProofs [he, k0, fIse, t1, t2, t3, hs, hd, hh, w6E, splice]
  have he : isE v6 k = true := by simpa using he
  by_cases h3 : 1652 < ps.length
  · have i3 : (1660 : Int) < 8 + (ps.length : Int) := by omega
    have j3 : (1652 : Int) < (ps.length : Int) := by omega
    simp -implicitDefEqProofs [he, k0, fIse, t1, t2, t3, hs, hd, hh, w6E, splice, e1, h3, i3, j3]
  have i3 : ¬ (1660 : Int) < 8 + (ps.length : Int) := by omega
  have j3 : ¬ (1652 : Int) < (ps.length : Int) := by omega
  obtain ⟨x, y, z, u, rfl⟩ : ∃ x y z u, h = [x, y, z, u] := by
    match h, hh with
    | [x, y, z, u], _ => exact ⟨x, y, z, u, rfl⟩
  have q1 : ([x, y, z, u] ++ ps).length = 4 + ps.length := by simp; omega
  have q2 : bytesB ([x, y, z, u] ++ ps) = true := by rw [bytesB_append, bh, hz]; rfl
  have q3 : ps.length ≤ 549755813888 := by omega
  have q4 : 4 + ps.length ≤ 549755813888 := by omega
  have q5 : 4 + 4 + ps.length ≤ 549755813888 := by omega
  have q6 : 8 + ps.length ≤ 549755813888 := by omega
  have q7 : 4 + (4 + ps.length) ≤ 549755813888 := by omega
  have q8 : ps.take ps.length = ps := List.take_length
  have q9 : ([x, y, z, u] ++ ps).take (4 + ps.length) = [x, y, z, u] ++ ps := List.take_of_length_le (by omega)
  generalize hX : [x, y, z, u] ++ ps = X at *
  have hF : AV.v (.int .u8 x) :: AV.v (.int .u8 y) :: AV.v (.int .u8 z) :: AV.v (.int .u8 u) :: B8 ps = B8 X := by rw [← hX]; rfl
  have q10 : 4 + (4 + ps.length) = 8 + ps.length := by omega
  have q11 : (2 : Int) < 8 + (ps.length : Int) := by omega
  have q12 : (3 : Int) < 8 + (ps.length : Int) := by omega
  have tX : ∀ a b c d : AV, (a :: b :: c :: d :: B8 X).take (8 + ps.length) = a :: b :: c :: d :: B8 X := fun _ _ _ _ => List.take_of_length_le (by simp [q1]; omega)
  have tY : ∀ a b c d : AV, (a :: b :: c :: d :: B8 ps).take (4 + ps.length) = a :: b :: c :: d :: B8 ps := fun _ _ _ _ => List.take_of_length_le (by simp; omega)
  have hgm : goodM ss ds (k :: c :: 0 :: 0 :: X) (8 + ps.length) := ⟨by simp [q1]; omega, by omega, hs, hd, by simp only [bytesB_cons, q2]; simp [k0, k1, c0, c1], bs, bd⟩
  have hK := skV_range (v6 := v6) hgm.2.2.2.2.1 bs bd
  generalize hKe : skV v6 ss ds (k :: c :: 0 :: 0 :: X) = K at *
  have r1 : K.fdiv 256 = K / 256 := Int.fdiv_eq_ediv_of_nonneg _ (by omega)
  have r2 : K.tdiv 256 = K / 256 := Int.tdiv_eq_ediv_of_nonneg (by omega)
  have r3 : K.tmod 256 = K % 256 := Int.tmod_eq_emod_of_nonneg (by omega)
  have r4 : IntKind.u8.wrap (K / 256) = K / 256 := wrapu8_id (by omega) (by omega)
  have r5 : IntKind.u8.wrap (K % 256) = K % 256 := wrapu8_id (by omega) (by omega)
  have r6 : IntKind.u8.wrap K = K % 256 := by simp [IntKind.wrap, IntKind.signed, IntKind.bits]
  have r7 : IntKind.u16.wrap (K / 256) = K / 256 := wrapu16_id (by omega) (by omega)
  have r8 : IntKind.u16.wrap (K % 256) = K % 256 := wrapu16_id (by omega) (by omega)
  simp -implicitDefEqProofs [he, k0, fIse, fSk, t1, t2, hs, hd, splice, e1, h3, i3, j3, q1, q2, q3, q4, q5, q6, q7, q8, q9, q10, q11, q12, hKe, hX, hF, tX, tY, hgm, r1, r2, r3, r4, r5, r6, r7, r8, w6C, w6M, B8vc, B8vn, asB8_nil'', asB8_cons'', IntKind.bits, Nat.testBit_eq_decide_div_mod_eq]
  all_goals omega
def fIW : Fun
  | [.v (.bool v6), .agg a, .agg b, .v (.int .u8 k), .v (.int .u8 c), .agg g, .sl nn d len cap] => (asB8 a).bind fun ss => (asB8 b).bind fun ds => (asB8 g).bind fun h => (asB8 d).bind fun ps => if goodIW k c ss ds h ps len then some (iwV v6 ss ds k c h ps) else none
  | _ => none
theorem write6_pure : Pure Try.prog 110 fIW := (runF_pure kw6_ok follows_mixed dm_ok 100000 1 110).weaken fun args r h => by
  unfold fIW at h
  split at h
  · rename_i v6 a b k c g nn d len cap
    obtain ⟨ss, e1, h1⟩ := Option.bind_eq_some_iff.1 h
    obtain ⟨ds, e2, h2⟩ := Option.bind_eq_some_iff.1 h1
    obtain ⟨hd, e3, h3⟩ := Option.bind_eq_some_iff.1 h2
    obtain ⟨ps, e4, he⟩ := Option.bind_eq_some_iff.1 h3
    clear h h1 h2 h3
    split at he
    case isFalse => cases he
    rename_i hh
    obtain rfl := hh.1
    obtain rfl := asB8_eq e1
    obtain rfl := asB8_eq e2
    obtain rfl := asB8_eq e3
    obtain rfl := asB8_eq e4
    rw [← he]
    exact write6_run v6 ss ds k c hd ps nn cap hh
  · cases h
theorem rwrite6_pure : Pure Try.prog 112 fIW := (runF_pure kw6_ok follows_mixed dm_ok 100000 1 112).weaken fun args r h => by
  unfold fIW at h
  split at h
  · rename_i v6 a b k c g nn d len cap
    obtain ⟨ss, e1, h1⟩ := Option.bind_eq_some_iff.1 h
    obtain ⟨ds, e2, h2⟩ := Option.bind_eq_some_iff.1 h1
    obtain ⟨hd, e3, h3⟩ := Option.bind_eq_some_iff.1 h2
    obtain ⟨ps, e4, he⟩ := Option.bind_eq_some_iff.1 h3
    clear h h1 h2 h3
    split at he
    case isFalse => cases he
    rename_i hh
    obtain rfl := hh.1
    obtain rfl := asB8_eq e1
    obtain rfl := asB8_eq e2
    obtain rfl := asB8_eq e3
    obtain rfl := asB8_eq e4
    rw [← he]
    exact rwrite6_run v6 ss ds k c hd ps nn cap hh
  · cases h
end Go.Proofs.Ytmdafjegddnecaa
