/- Fragments: small contracts. -/
import Derived.Test.YtfkneafghcndfaaXa
namespace Go.Proofs.Ytfkneafghcndfaa
open Go.RowKit Go.Pm
set_option linter.unusedVariables false
set_option linter.unusedSimpArgs false
set_option maxRecDepth 1000000
attribute [simp] reach renA renAs openF objE putU closeObj runO List.range_succ
theorem namesL_B8 (zs : List Int) : namesL (B8 zs) = [] := by
  induction zs with
  | nil => rfl
  | cons z zs ih => show AV.names _ ++ namesL (B8 zs) = []; rw [ih]; rfl
theorem renL_B8 (f : Nat → Nat → Option (Nat × Nat)) (zs : List Int) : renL f (B8 zs) = some (B8 zs) := by
  induction zs with
  | nil => rfl
  | cons z zs ih => show (some _).bind (fun x' => (renL f (B8 zs)).map fun xs' => x' :: xs') = _; rw [ih]; rfl
attribute [simp] namesL_B8 renL_B8
theorem asB8_nil'' : asB8 [] = some [] := rfl
theorem asB8_cons'' (z : Int) (xs : List AV) : asB8 (.v (.int .u8 z) :: xs) = (asB8 xs).map (z :: ·) := rfl
theorem B8vc (z : Int) (zs : List Int) : B8 (z :: zs) = .v (.int .u8 z) :: B8 zs := rfl
theorem B8vn : B8 [] = [] := rfl
/-- Two bytes of a sum. -/
def fAdd1 : ObjF
  | [.v (.int .u8 h), .v (.int .u8 l), .ptr 0 0 0], [[.v (.int .u64 n)]] => some (.tup [], [[.v (.int .u64 (IntKind.u64.wrap (n + IntKind.u64.wrap (IntKind.u64.wrap (IntKind.u64.wrap h * 256) + IntKind.u64.wrap l))))]], [])
  | _, _ => none
theorem add1_obj : ObjOk' Try.prog 84 fAdd1 := (runO_ok kn_ok follows_mixed dm_ok 100000 1 84).weaken fun args bs r h => by
  unfold fAdd1 at h
  split at h
  · rename_i x y n
    rw [← h]
    unfold runO
    rw [pvCall_own (fn := Try.f84) rfl Try.func84 rfl (by decide) rfl rfl (by simp)]
    simp -implicitDefEqProofs [blkMem, splice, IntKind.bits, List.range_succ]
  · cases h

def bytesB (zs : List Int) : Bool := zs.all fun z => decide (0 ≤ z) && decide (z ≤ 255)
theorem bytesB_iff {zs : List Int} : bytesB zs = true ↔ ∀ x ∈ zs, 0 ≤ x ∧ x ≤ 255 := by simp [bytesB, List.all_eq_true]
theorem bytesB_append (a b : List Int) : bytesB (a ++ b) = (bytesB a && bytesB b) := by simp [bytesB]
theorem bytesB_cons (x : Int) (b : List Int) : bytesB (x :: b) = (decide (0 ≤ x) && decide (x ≤ 255) && bytesB b) := rfl
def gb (zs : List Int) (i : Nat) : Int := zs.getD i 0
theorem gb_range {zs : List Int} (h : bytesB zs = true) (i : Nat) : 0 ≤ gb zs i ∧ gb zs i ≤ 255 := by
  unfold gb
  rw [List.getD_eq_getElem?_getD]
  cases hx : zs[i]? with
  | none => simp
  | some x => exact bytesB_iff.1 h x (List.mem_of_getElem? hx)
theorem B8_at0 (zs : List Int) (k : Nat) (h : k < zs.length) : (B8 (zs.drop k))[0]? = some (.v (.int .u8 (gb zs k))) := B8_get0 zs k h
theorem wrap64_id {x : Int} (h0 : -9223372036854775808 ≤ x) (h1 : x ≤ 9223372036854775807) : IntKind.i64.wrap x = x := by
  simp [IntKind.wrap, IntKind.signed, IntKind.bits]; omega
theorem i64_or_nat (a b : Nat) (ha : a < 9223372036854775808) (hb : b < 9223372036854775808) : bits .or .i64 (a : Int) (b : Int) = ((a ||| b : Nat) : Int) := by
  have hx : a ||| b < 2 ^ 63 := Nat.or_lt_two_pow (by omega) (by omega)
  show IntKind.i64.wrap ((BitVec.ofInt 64 (a : Int) ||| BitVec.ofInt 64 (b : Int)).toNat : Int) = _
  rw [BitVec.toNat_or, BitVec.ofInt_natCast, BitVec.ofInt_natCast, BitVec.toNat_ofNat, BitVec.toNat_ofNat, Nat.mod_eq_of_lt (by omega), Nat.mod_eq_of_lt (by omega)]
  exact wrap64_id (by omega) (by omega)
theorem ori64_256 (x y : Int) (x0 : 0 ≤ x) (x1 : x ≤ 255) (y0 : 0 ≤ y) (y1 : y ≤ 255) : bits .or .i64 (x * 256) y = x * 256 + y := by
  obtain ⟨a, rfl⟩ := Int.eq_ofNat_of_zero_le x0
  obtain ⟨b, rfl⟩ := Int.eq_ofNat_of_zero_le y0
  have h := Nat.two_pow_add_eq_or_of_lt (i := 8) (b := b) (by omega) a
  rw [show (a : Int) * 256 = ((2 ^ 8 * a : Nat) : Int) by omega, i64_or_nat _ _ (by omega) (by omega), ← h]
  omega
def w16 (zs : List Int) (i : Nat) : Int := gb zs i * 256 + gb zs (i + 1)
set_option maxHeartbeats 4000000 in
theorem pword_run (zs : List Int) (nn : Bool) (cap : Option Nat) (i : Nat) (hz : bytesB zs = true) (h : i + 1 < zs.length) (hl : zs.length ≤ 1099511627776) : runF Try.prog KN Dm 100000 1 65 [.sl nn (B8 zs) zs.length cap, .v (.int .i64 (i : Int))] = some (.v (.int .i64 (w16 zs i)), []) := by
  have h1 : i < zs.length := by omega
  have g0 := gb_range hz i
  have g1 := gb_range hz (i + 1)
  have w1 : IntKind.i64.wrap ((i : Int) + 1) = ((i + 1 : Nat) : Int) := by rw [wrap64_id (by omega) (by omega)]; omega
  have w2 : IntKind.i64.wrap (gb zs i) = gb zs i := wrap64_id (by omega) (by omega)
  have w3 : IntKind.i64.wrap (gb zs (i + 1)) = gb zs (i + 1) := wrap64_id (by omega) (by omega)
  have w4 : IntKind.i64.wrap (gb zs i * 256) = gb zs i * 256 := wrap64_id (by omega) (by omega)
  have o1 : bits .or .i64 (gb zs i * 256) (gb zs (i + 1)) = w16 zs i := ori64_256 _ _ g0.1 g0.2 g1.1 g1.2
  have i1 : 0 ≤ (i : Int) + 1 ∧ (i : Int) + 1 < (zs.length : Int) := by omega
  unfold runF
  rw [pvCall_own (fn := Try.f65) rfl Try.func65 rfl (by decide) rfl rfl (by simp)]
  simp -implicitDefEqProofs [h1, h, B8_at0, w1, w2, w3, w4, o1, i1, IntKind.bits]
def fPWord : Fun
  | [.sl nn b len cap, .v (.int .i64 i)] => (asB8 b).bind fun zs => if zs.length = len ∧ len ≤ 1099511627776 ∧ bytesB zs = true ∧ 0 ≤ i ∧ i + 1 < (len : Int) then some (.v (.int .i64 (w16 zs i.toNat)), []) else none
  | _ => none
theorem pword_pure : Pure Try.prog 65 fPWord := (runF_pure kn_ok follows_mixed dm_ok 100000 1 65).weaken fun args r h => by
  unfold fPWord at h
  split at h
  · rename_i nn b len cap i
    obtain ⟨zs, hz, he⟩ := Option.bind_eq_some_iff.1 h
    clear h
    split at he
    case isFalse => cases he
    rename_i hh
    obtain ⟨rfl, h1, h2, h3, h4⟩ := hh
    obtain rfl := asB8_eq hz
    obtain ⟨k, rfl⟩ := Int.eq_ofNat_of_zero_le h3
    rw [← he]
    have := pword_run zs nn cap k h2 (by omega) h1
    simpa using this
  · cases h
noncomputable def KPA : Nat → Option Con
  | 65 => some (.pure fPWord)
  | 84 => some (.obj fAdd1)
  | _ => none
theorem kpa_ok : KOk Try.prog KPA := fun f F h => by
  unfold KPA at h
  split at h
  · cases h; exact ⟨pword_pure, _, Try.func65, rfl, by decide⟩
  · cases h; exact ⟨add1_obj, _, Try.func84, rfl, by decide⟩
  · cases h
section
variable {D : FuncId → Nat → List Nat} {L d px : Nat} {args : List AV} {m : Mem}
theorem ckpa_word : pvCall Try.prog KPA D L d px 65 args m = callBy fPWord m px args := pvCall_by rfl
theorem ckpa_add1 : pvCall Try.prog KPA D L d px 84 args m = appK m (objE fAdd1 m px args) := pvCall_obj rfl
end
theorem ekpa_word : KPA 65 = some (.pure fPWord) := rfl
theorem ekpa_add1 : KPA 84 = some (.obj fAdd1) := rfl
attribute [simp] ckpa_word ekpa_word ckpa_add1 ekpa_add1
def ewP (zs : List Int) : AV × List (List AV) := (.own 0 0 0 zs.length 1 (.whole 5), [B8 zs])
set_option maxHeartbeats 16000000 in
theorem one_run0 : runF Try.prog KPA Dm 100000 6 34 [.v (.int .i64 8), .v (.bool false)] = some (ewP [69, 0, 0, 28, 0, 7, 0, 1, 9, 17, 156, 202, 10, 0, 0, 0, 11, 0, 0, 0, 0, 5, 0, 80, 0, 9, 0, 0]) := by
  have hpmake := fun (d px : Nat) (args : List AV) (m : Mem) (hl : args.length ≤ Try.f10.ntmps) => pvCall_own (P := Try.prog) (K := KPA) (D := Dm) (L := 100000) (d := d) (px := px) (args := args) (m := m) (f := 10) (fn := Try.f10) rfl Try.func10 rfl (by decide) rfl rfl hl
  have hlay := fun (d px : Nat) (args : List AV) (m : Mem) (hl : args.length ≤ Try.f35.ntmps) => pvCall_own (P := Try.prog) (K := KPA) (D := Dm) (L := 100000) (d := d) (px := px) (args := args) (m := m) (f := 35) (fn := Try.f35) rfl Try.func35 rfl (by decide) rfl rfl hl
  have hrof := fun (d px : Nat) (args : List AV) (m : Mem) (hl : args.length ≤ Try.f36.ntmps) => pvCall_own (P := Try.prog) (K := KPA) (D := Dm) (L := 100000) (d := d) (px := px) (args := args) (m := m) (f := 36) (fn := Try.f36) rfl Try.func36 rfl (by decide) rfl rfl hl
  have hrend := fun (d px : Nat) (args : List AV) (m : Mem) (hl : args.length ≤ Try.f54.ntmps) => pvCall_own (P := Try.prog) (K := KPA) (D := Dm) (L := 100000) (d := d) (px := px) (args := args) (m := m) (f := 54) (fn := Try.f54) rfl Try.func54 rfl (by decide) rfl rfl hl
  have hradd := fun (d px : Nat) (args : List AV) (m : Mem) (hl : args.length ≤ Try.f55.ntmps) => pvCall_own (P := Try.prog) (K := KPA) (D := Dm) (L := 100000) (d := d) (px := px) (args := args) (m := m) (f := 55) (fn := Try.f55) rfl Try.func55 rfl (by decide) rfl rfl hl
  have hrplus := fun (d px : Nat) (args : List AV) (m : Mem) (hl : args.length ≤ Try.f64.ntmps) => pvCall_own (P := Try.prog) (K := KPA) (D := Dm) (L := 100000) (d := d) (px := px) (args := args) (m := m) (f := 64) (fn := Try.f64) rfl Try.func64 rfl (by decide) rfl rfl hl
  unfold runF
  rw [pvCall_own (fn := Try.f34) rfl Try.func34 rfl (by decide) rfl rfl (by simp)]
  simp (config := { maxSteps := 10000000 }) -implicitDefEqProofs [hpmake, hlay, hrof, hrend, hradd, hrplus, ewP, B8vc, B8vn, loopK_pos, splice, IntKind.wrap, IntKind.signed, IntKind.bits, Nat.testBit_eq_decide_div_mod_eq, List.replicate_succ]
set_option maxHeartbeats 16000000 in
theorem one_run1 : runF Try.prog KPA Dm 100000 6 34 [.v (.int .i64 0), .v (.bool true)] = some (ewP [69, 0, 0, 28, 0, 7, 32, 0, 9, 17, 124, 203, 10, 0, 0, 0, 11, 0, 0, 0, 0, 5, 0, 80, 0, 9, 0, 0]) := by
  have hpmake := fun (d px : Nat) (args : List AV) (m : Mem) (hl : args.length ≤ Try.f10.ntmps) => pvCall_own (P := Try.prog) (K := KPA) (D := Dm) (L := 100000) (d := d) (px := px) (args := args) (m := m) (f := 10) (fn := Try.f10) rfl Try.func10 rfl (by decide) rfl rfl hl
  have hlay := fun (d px : Nat) (args : List AV) (m : Mem) (hl : args.length ≤ Try.f35.ntmps) => pvCall_own (P := Try.prog) (K := KPA) (D := Dm) (L := 100000) (d := d) (px := px) (args := args) (m := m) (f := 35) (fn := Try.f35) rfl Try.func35 rfl (by decide) rfl rfl hl
  have hrof := fun (d px : Nat) (args : List AV) (m : Mem) (hl : args.length ≤ Try.f36.ntmps) => pvCall_own (P := Try.prog) (K := KPA) (D := Dm) (L := 100000) (d := d) (px := px) (args := args) (m := m) (f := 36) (fn := Try.f36) rfl Try.func36 rfl (by decide) rfl rfl hl
  have hrend := fun (d px : Nat) (args : List AV) (m : Mem) (hl : args.length ≤ Try.f54.ntmps) => pvCall_own (P := Try.prog) (K := KPA) (D := Dm) (L := 100000) (d := d) (px := px) (args := args) (m := m) (f := 54) (fn := Try.f54) rfl Try.func54 rfl (by decide) rfl rfl hl
  have hradd := fun (d px : Nat) (args : List AV) (m : Mem) (hl : args.length ≤ Try.f55.ntmps) => pvCall_own (P := Try.prog) (K := KPA) (D := Dm) (L := 100000) (d := d) (px := px) (args := args) (m := m) (f := 55) (fn := Try.f55) rfl Try.func55 rfl (by decide) rfl rfl hl
  have hrplus := fun (d px : Nat) (args : List AV) (m : Mem) (hl : args.length ≤ Try.f64.ntmps) => pvCall_own (P := Try.prog) (K := KPA) (D := Dm) (L := 100000) (d := d) (px := px) (args := args) (m := m) (f := 64) (fn := Try.f64) rfl Try.func64 rfl (by decide) rfl rfl hl
  unfold runF
  rw [pvCall_own (fn := Try.f34) rfl Try.func34 rfl (by decide) rfl rfl (by simp)]
  simp (config := { maxSteps := 10000000 }) -implicitDefEqProofs [hpmake, hlay, hrof, hrend, hradd, hrplus, ewP, B8vc, B8vn, loopK_pos, splice, IntKind.wrap, IntKind.signed, IntKind.bits, Nat.testBit_eq_decide_div_mod_eq, List.replicate_succ]
set_option maxHeartbeats 16000000 in
theorem one_run2 : runF Try.prog KPA Dm 100000 6 34 [.v (.int .i64 16), .v (.bool false)] = some (ewP [69, 0, 0, 28, 0, 7, 0, 2, 9, 17, 156, 201, 10, 0, 0, 0, 11, 0, 0, 0, 0, 5, 0, 80, 0, 9, 0, 0]) := by
  have hpmake := fun (d px : Nat) (args : List AV) (m : Mem) (hl : args.length ≤ Try.f10.ntmps) => pvCall_own (P := Try.prog) (K := KPA) (D := Dm) (L := 100000) (d := d) (px := px) (args := args) (m := m) (f := 10) (fn := Try.f10) rfl Try.func10 rfl (by decide) rfl rfl hl
  have hlay := fun (d px : Nat) (args : List AV) (m : Mem) (hl : args.length ≤ Try.f35.ntmps) => pvCall_own (P := Try.prog) (K := KPA) (D := Dm) (L := 100000) (d := d) (px := px) (args := args) (m := m) (f := 35) (fn := Try.f35) rfl Try.func35 rfl (by decide) rfl rfl hl
  have hrof := fun (d px : Nat) (args : List AV) (m : Mem) (hl : args.length ≤ Try.f36.ntmps) => pvCall_own (P := Try.prog) (K := KPA) (D := Dm) (L := 100000) (d := d) (px := px) (args := args) (m := m) (f := 36) (fn := Try.f36) rfl Try.func36 rfl (by decide) rfl rfl hl
  have hrend := fun (d px : Nat) (args : List AV) (m : Mem) (hl : args.length ≤ Try.f54.ntmps) => pvCall_own (P := Try.prog) (K := KPA) (D := Dm) (L := 100000) (d := d) (px := px) (args := args) (m := m) (f := 54) (fn := Try.f54) rfl Try.func54 rfl (by decide) rfl rfl hl
  have hradd := fun (d px : Nat) (args : List AV) (m : Mem) (hl : args.length ≤ Try.f55.ntmps) => pvCall_own (P := Try.prog) (K := KPA) (D := Dm) (L := 100000) (d := d) (px := px) (args := args) (m := m) (f := 55) (fn := Try.f55) rfl Try.func55 rfl (by decide) rfl rfl hl
  have hrplus := fun (d px : Nat) (args : List AV) (m : Mem) (hl : args.length ≤ Try.f64.ntmps) => pvCall_own (P := Try.prog) (K := KPA) (D := Dm) (L := 100000) (d := d) (px := px) (args := args) (m := m) (f := 64) (fn := Try.f64) rfl Try.func64 rfl (by decide) rfl rfl hl
  unfold runF
  rw [pvCall_own (fn := Try.f34) rfl Try.func34 rfl (by decide) rfl rfl (by simp)]
  simp (config := { maxSteps := 10000000 }) -implicitDefEqProofs [hpmake, hlay, hrof, hrend, hradd, hrplus, ewP, B8vc, B8vn, loopK_pos, splice, IntKind.wrap, IntKind.signed, IntKind.bits, Nat.testBit_eq_decide_div_mod_eq, List.replicate_succ]
def fOne : Fun
  | [.v (.int .i64 a), .v (.bool m)] => if a = 8 ∧ m = false then some (ewP [69, 0, 0, 28, 0, 7, 0, 1, 9, 17, 156, 202, 10, 0, 0, 0, 11, 0, 0, 0, 0, 5, 0, 80, 0, 9, 0, 0]) else if a = 0 ∧ m = true then some (ewP [69, 0, 0, 28, 0, 7, 32, 0, 9, 17, 124, 203, 10, 0, 0, 0, 11, 0, 0, 0, 0, 5, 0, 80, 0, 9, 0, 0]) else if a = 16 ∧ m = false then some (ewP [69, 0, 0, 28, 0, 7, 0, 2, 9, 17, 156, 201, 10, 0, 0, 0, 11, 0, 0, 0, 0, 5, 0, 80, 0, 9, 0, 0]) else none
  | _ => none
theorem one_pure : Pure Try.prog 34 fOne := (runF_pure kpa_ok follows_mixed dm_ok 100000 6 34).weaken fun args r h => by
  unfold fOne at h
  split at h
  · rename_i a m
    split at h
    · rename_i hh; obtain ⟨rfl, rfl⟩ := hh; rw [← h]; exact one_run0
    split at h
    · rename_i hh; obtain ⟨rfl, rfl⟩ := hh; rw [← h]; exact one_run1
    split at h
    · rename_i hh; obtain ⟨rfl, rfl⟩ := hh; rw [← h]; exact one_run2
    cases h
  · cases h
end Go.Proofs.Ytfkneafghcndfaa
