/- seg's small functions as functions of values. -/
import Derived.Test.YtmdafjegddnecaaQc
namespace Go.Proofs.Ytmdafjegddnecaa
open Go.Pm
set_option linter.unusedVariables false
set_option linter.unusedSimpArgs false
set_option maxRecDepth 1000000

def K0 : Nat → Option Con := fun _ => none
theorem k0_ok : KOk Try.prog K0 := fun f F h => by cases h
theorem wrap64_id {x : Int} (h0 : -9223372036854775808 ≤ x) (h1 : x ≤ 9223372036854775807) : IntKind.i64.wrap x = x := by simp [IntKind.wrap, IntKind.signed, IntKind.bits]; omega
theorem wrapu8_id {x : Int} (h0 : 0 ≤ x) (h1 : x < 256) : IntKind.u8.wrap x = x := by simp [IntKind.wrap, IntKind.signed, IntKind.bits]; omega
theorem wrapu16_id {x : Int} (h0 : 0 ≤ x) (h1 : x < 65536) : IntKind.u16.wrap x = x := by simp [IntKind.wrap, IntKind.signed, IntKind.bits]; omega
theorem wrapu32_id {x : Int} (h0 : 0 ≤ x) (h1 : x < 4294967296) : IntKind.u32.wrap x = x := by simp [IntKind.wrap, IntKind.signed, IntKind.bits]; omega
theorem namesL_B8 (zs : List Int) : namesL (B8 zs) = [] := by
  induction zs with
  | nil => rfl
  | cons z zs ih => show AV.names _ ++ namesL (B8 zs) = []; rw [ih]; rfl
theorem renL_B8 (f : Nat → Nat → Option (Nat × Nat)) (zs : List Int) : renL f (B8 zs) = some (B8 zs) := by
  induction zs with
  | nil => rfl
  | cons z zs ih => show (AV.ren f _).bind (fun x' => (renL f (B8 zs)).map fun xs' => x' :: xs') = _; rw [ih]; rfl
attribute [simp] namesL_B8 renL_B8 List.idxOf?_cons
attribute [simp] closeRes AV.names namesL addAll blksOf AV.ren renL renBlks closeF runF

set_option maxHeartbeats 4000000 in
theorem at_run (zs : List Int) (nn : Bool) (cap : Option Nat) (i : Nat) (hz : bytesB zs = true) (h : i + 1 < zs.length) (hl : zs.length ≤ 1099511627776) : runF Try.prog K0 Dm 100000 1 135 [.sl nn (B8 zs) zs.length cap, .v (.int .i64 (i : Int))] = some (.v (.int .u16 (w16 zs i)), []) := by
  have h1 : i < zs.length := by omega
  have g0 := gb_range hz i
  have g1 := gb_range hz (i + 1)
  have w1 : IntKind.i64.wrap ((i : Int) + 1) = ((i + 1 : Nat) : Int) := by rw [wrap64_id (by omega) (by omega)]; omega
  have w2 : IntKind.u16.wrap (gb zs i) = gb zs i := wrapu16_id (by omega) (by omega)
  have w3 : IntKind.u16.wrap (gb zs (i + 1)) = gb zs (i + 1) := wrapu16_id (by omega) (by omega)
  have w4 : IntKind.u16.wrap (gb zs i * 256) = gb zs i * 256 := wrapu16_id (by omega) (by omega)
  have o1 : bits .or .u16 (gb zs i * 256) (gb zs (i + 1)) = w16 zs i := or16 _ _ g0.1 g0.2 g1.1 g1.2
  have i1 : 0 ≤ (i : Int) + 1 ∧ (i : Int) + 1 < (zs.length : Int) := by omega
  unfold runF
  rw [pvCall_own (fn := Try.f135) rfl Try.func135 rfl (by decide) rfl rfl (by simp)]
  simp [h1, h, B8_at0, w1, w2, w3, w4, o1, i1, IntKind.bits]
def fAt : Fun
  | [.sl nn b len cap, .v (.int .i64 i)] => (asB8 b).bind fun zs => if zs.length = len ∧ len ≤ 1099511627776 ∧ bytesB zs = true ∧ 0 ≤ i ∧ i + 1 < (len : Int) then some (.v (.int .u16 (w16 zs i.toNat)), []) else none
  | _ => none
theorem at_pure : Pure Try.prog 135 fAt := (runF_pure k0_ok follows_mixed dm_ok 100000 1 135).weaken fun args r h => by
  unfold fAt at h
  split at h
  · rename_i nn b len cap i
    obtain ⟨zs, hz, he⟩ := Option.bind_eq_some_iff.1 h
    clear h
    split at he
    case isFalse => cases he
    rename_i hh
    obtain ⟨rfl, h1, h2, h3, h4⟩ := hh
    obtain rfl := asB8_eq hz
    obtain ⟨k, rfl⟩ := Int.eq_ofNat_of_zero_le h3
    rw [← he]
    exact at_run zs nn cap k h2 (by omega) h1
  · cases h
def K1 : Nat → Option Con
  | 135 => some fAt
  | 136 => some fSealed
  | 59 => some fSealed
  | _ => none
theorem k1_ok : KOk Try.prog K1 := fun f F h => by
  unfold K1 at h
  split at h
  · cases h; exact ⟨at_pure, _, Try.func135, rfl, by decide⟩
  · cases h; exact ⟨sealed_pure, _, Try.func136, rfl, by decide⟩
  · cases h; exact ⟨right_pure, _, Try.func59, rfl, by decide⟩
  · cases h
set_option maxHeartbeats 4000000 in
theorem four_run (zs : List Int) (nn : Bool) (cap : Option Nat) (i : Nat) (hz : bytesB zs = true) (h : i + 3 < zs.length) (hl : zs.length ≤ 1099511627776) : runF Try.prog K1 Dm 100000 1 157 [.sl nn (B8 zs) zs.length cap, .v (.int .i64 (i : Int))] = some (.v (.int .u32 (w32 zs i)), []) := by
  have r0 := w16_range (bytesB_iff.1 hz) i
  have r1 := w16_range (bytesB_iff.1 hz) (i + 2)
  have w1 : IntKind.i64.wrap ((i : Int) + 2) = (i : Int) + 2 := wrap64_id (by omega) (by omega)
  have n1 : ((i : Int) + 2).toNat = i + 2 := by omega
  have w2 : IntKind.u32.wrap (w16 zs i) = w16 zs i := wrapu32_id (by omega) (by omega)
  have w3 : IntKind.u32.wrap (w16 zs (i + 2)) = w16 zs (i + 2) := wrapu32_id (by omega) (by omega)
  have w4 : IntKind.u32.wrap (w16 zs i * 65536) = w16 zs i * 65536 := wrapu32_id (by omega) (by omega)
  have o1 : bits .or .u32 (w16 zs i * 65536) (w16 zs (i + 2)) = w32 zs i := or32 _ _ r0.1 r0.2 r1.1 r1.2
  have i1 : (i : Int) + 1 < (zs.length : Int) := by omega
  have i2 : 0 ≤ (i : Int) + 2 ∧ (i : Int) + 2 + 1 < (zs.length : Int) := by omega
  unfold runF
  rw [pvCall_own (fn := Try.f157) rfl Try.func157 rfl (by decide) rfl rfl (by simp)]
  simp [pvCall_by (show K1 135 = some (.pure fAt) from rfl), callBy, closeArgs, closeArg, closeLeaf, AV.shut, fAt, hz, hl, i1, i2, w1, w2, w3, w4, o1, n1, IntKind.bits, place, siteRen]
def fFour : Fun
  | [.sl nn b len cap, .v (.int .i64 i)] => (asB8 b).bind fun zs => if zs.length = len ∧ len ≤ 1099511627776 ∧ bytesB zs = true ∧ 0 ≤ i ∧ i + 3 < (len : Int) then some (.v (.int .u32 (w32 zs i.toNat)), []) else none
  | _ => none
theorem four_pure : Pure Try.prog 157 fFour := (runF_pure k1_ok follows_mixed dm_ok 100000 1 157).weaken fun args r h => by
  unfold fFour at h
  split at h
  · rename_i nn b len cap i
    obtain ⟨zs, hz, he⟩ := Option.bind_eq_some_iff.1 h
    clear h
    split at he
    case isFalse => cases he
    rename_i hh
    obtain ⟨rfl, h1, h2, h3, h4⟩ := hh
    obtain rfl := asB8_eq hz
    obtain ⟨k, rfl⟩ := Int.eq_ofNat_of_zero_le h3
    rw [← he]
    exact four_run zs nn cap k h2 (by omega) h1
  · cases h
set_option maxHeartbeats 4000000 in
theorem word_run (zs : List Int) (nn : Bool) (cap : Option Nat) (i : Nat) (hz : bytesB zs = true) (h : i + 1 < zs.length) (hl : zs.length ≤ 1099511627776) : runF Try.prog K1 Dm 100000 1 156 [.v (.int .i64 (i : Int)), .at_ [.sl nn (B8 zs) zs.length cap]] = some (.v (.int .u16 (w16 zs i)), []) := by
  have i1 : (i : Int) + 1 < (zs.length : Int) := by omega
  unfold runF
  rw [pvCall_own (fn := Try.f156) rfl Try.func156 rfl (by decide) rfl rfl (by simp)]
  simp [pvCall_by (show K1 135 = some (.pure fAt) from rfl), callBy, closeArgs, closeArg, closeLeaf, AV.shut, fAt, hz, hl, i1, place, siteRen]
def fWord : Fun
  | [.v (.int .i64 i), .at_ [.sl nn b len cap]] => (asB8 b).bind fun zs => if zs.length = len ∧ len ≤ 1099511627776 ∧ bytesB zs = true ∧ 0 ≤ i ∧ i + 1 < (len : Int) then some (.v (.int .u16 (w16 zs i.toNat)), []) else none
  | _ => none
theorem word_pure : Pure Try.prog 156 fWord := (runF_pure k1_ok follows_mixed dm_ok 100000 1 156).weaken fun args r h => by
  unfold fWord at h
  split at h
  · rename_i i nn b len cap
    obtain ⟨zs, hz, he⟩ := Option.bind_eq_some_iff.1 h
    clear h
    split at he
    case isFalse => cases he
    rename_i hh
    obtain ⟨rfl, h1, h2, h3, h4⟩ := hh
    obtain rfl := asB8_eq hz
    obtain ⟨k, rfl⟩ := Int.eq_ofNat_of_zero_le h3
    rw [← he]
    exact word_run zs nn cap k h2 (by omega) h1
  · cases h
set_option maxHeartbeats 4000000 in
theorem clone_run (zs : List Int) (nn : Bool) (cap : Option Nat) (hn : nn = true ∨ 0 < zs.length) (hl : zs.length ≤ 549755813888) : runF Try.prog K0 Dm 100000 1 66 [.sl nn (B8 zs) zs.length cap] = some (.own 0 0 0 zs.length 1 (.whole 5), [B8 zs]) := by
  unfold runF
  rw [pvCall_own (fn := Try.f66) rfl Try.func66 rfl (by decide) rfl rfl (by simp)]
  simp [hn, hl]
def fClone : Fun
  | [.sl nn b len cap] => (asB8 b).bind fun zs => if zs.length = len ∧ len ≤ 549755813888 ∧ (nn = true ∨ 0 < len) then some (.own 0 0 0 len 1 (.whole 5), [b]) else none
  | _ => none
theorem clone_pure : Pure Try.prog 66 fClone := (runF_pure k0_ok follows_mixed dm_ok 100000 1 66).weaken fun args r h => by
  unfold fClone at h
  split at h
  · rename_i nn b len cap
    obtain ⟨zs, hz, he⟩ := Option.bind_eq_some_iff.1 h
    clear h
    split at he
    case isFalse => cases he
    rename_i hh
    obtain ⟨rfl, h1, h2⟩ := hh
    obtain rfl := asB8_eq hz
    rw [← he]
    exact clone_run zs nn cap h2 h1
  · cases h
def K2 : Nat → Option Con
  | 135 => some fAt
  | 157 => some fFour
  | 156 => some fWord
  | 66 => some fClone
  | 136 => some fSealed
  | 59 => some fSealed
  | _ => none
theorem k2_ok : KOk Try.prog K2 := fun f F h => by
  unfold K2 at h
  split at h
  · cases h; exact ⟨at_pure, _, Try.func135, rfl, by decide⟩
  · cases h; exact ⟨four_pure, _, Try.func157, rfl, by decide⟩
  · cases h; exact ⟨word_pure, _, Try.func156, rfl, by decide⟩
  · cases h; exact ⟨clone_pure, _, Try.func66, rfl, by decide⟩
  · cases h; exact ⟨sealed_pure, _, Try.func136, rfl, by decide⟩
  · cases h; exact ⟨right_pure, _, Try.func59, rfl, by decide⟩
  · cases h
end Go.Proofs.Ytmdafjegddnecaa
