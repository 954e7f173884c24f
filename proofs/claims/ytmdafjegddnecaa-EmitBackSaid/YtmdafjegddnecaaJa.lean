/- Sums, words and addresses as functions of values. -/
import Derived.Test.YtmdafjegddnecaaMx
import Derived.Test.YtmdafjegddnecaaSo
namespace Go.Proofs.Ytmdafjegddnecaa
open Go.RowKit Go.Pm Go.Wb
set_option linter.unusedVariables false
set_option linter.unusedSimpArgs false
set_option maxRecDepth 1000000
theorem i64_or_nat (a b : Nat) (ha : a < 9223372036854775808) (hb : b < 9223372036854775808) : bits .or .i64 (a : Int) (b : Int) = ((a ||| b : Nat) : Int) := by
  have hx : a ||| b < 2 ^ 63 := Nat.or_lt_two_pow (by omega) (by omega)
  show IntKind.i64.wrap ((BitVec.ofInt 64 (a : Int) ||| BitVec.ofInt 64 (b : Int)).toNat : Int) = _
  rw [BitVec.toNat_or, BitVec.ofInt_natCast, BitVec.ofInt_natCast, BitVec.toNat_ofNat, BitVec.toNat_ofNat, Nat.mod_eq_of_lt (by omega), Nat.mod_eq_of_lt (by omega)]
  exact wrap64_id (by omega) (by omega)
theorem i64_and_nat (a b : Nat) (ha : a < 9223372036854775808) (hb : b < 9223372036854775808) : bits .and .i64 (a : Int) (b : Int) = ((a &&& b : Nat) : Int) := by
  have hx : a &&& b < 2 ^ 63 := Nat.and_lt_two_pow _ (by omega)
  show IntKind.i64.wrap ((BitVec.ofInt 64 (a : Int) &&& BitVec.ofInt 64 (b : Int)).toNat : Int) = _
  rw [BitVec.toNat_and, BitVec.ofInt_natCast, BitVec.ofInt_natCast, BitVec.toNat_ofNat, BitVec.toNat_ofNat, Nat.mod_eq_of_lt (by omega), Nat.mod_eq_of_lt (by omega)]
  exact wrap64_id (by omega) (by omega)
theorem ori64_256 (x y : Int) (x0 : 0 ≤ x) (x1 : x ≤ 255) (y0 : 0 ≤ y) (y1 : y ≤ 255) : bits .or .i64 (x * 256) y = x * 256 + y := by
  obtain ⟨a, rfl⟩ := Int.eq_ofNat_of_zero_le x0
  obtain ⟨b, rfl⟩ := Int.eq_ofNat_of_zero_le y0
  have h := Nat.two_pow_add_eq_or_of_lt (i := 8) (b := b) (by omega) a
  rw [show (a : Int) * 256 = ((2 ^ 8 * a : Nat) : Int) by omega, i64_or_nat _ _ (by omega) (by omega), ← h]
  omega
/-- The checksum of bytes. -/
def ofV (zs : List Int) : Int := 65535 - sumTo 0 false zs
theorem ofV_range {zs : List Int} (h : bytesB zs = true) : 0 ≤ ofV zs ∧ ofV zs ≤ 65535 := by
  have := sumTo_range (s := 0) (o := false) (Int.le_refl 0) (bytesB_iff.1 h)
  unfold ofV; omega
def fOf : Fun
  | [.sl nn b len cap] => (asB8 b).bind fun zs => if zs.length = len ∧ len ≤ 1099511627776 ∧ bytesB zs = true then some (.v (.int .u16 (ofV zs)), []) else none
  | _ => none
theorem of_any {f : FuncId} (hf : ∀ (w : World) (a : Option Addr) (len cap : Nat) (zs : List Int), Row8 w a len cap zs → len ≤ 1099511627776 → Calls Try.prog f #[.slice a len cap] w fun e w' => e = .returned (.int .u16 (65535 - sumTo 0 false zs)) ∧ Below w.heap.size w w') : Pure Try.prog f fOf := pure_plain fun w args vs r bs ra hr => by
  unfold fOf at hr
  split at hr
  · rename_i nn b len cap
    obtain ⟨zs, h3, hr⟩ := Option.bind_eq_some_iff.1 hr
    split at hr
    case isFalse => cases hr
    rename_i hh
    obtain ⟨hz, hl, bz⟩ := hh
    cases hr
    obtain rfl := asB8_eq h3
    obtain ⟨x0, l0, e0, r0, ra⟩ := ra.inv_cons
    obtain rfl := ra.inv_nil
    obtain ⟨a, cp, rfl, hrow⟩ := row_of r0 hz (bytesB_iff.1 bz)
    obtain rfl : vs = #[.slice a len cp] := by
      cases vs; simp at e0; rw [e0]
    refine ⟨rfl, (hf w a len cp zs hrow hl).mono ?_⟩
    rintro e w' ⟨rfl, hb⟩
    exact ⟨_, rfl, hb, .v⟩
  · cases hr
theorem of_pure : Pure Try.prog 101 fOf := of_any fun w a len cap zs h hl => of_row h hl
theorem rof_pure : Pure Try.prog 142 fOf := of_any fun w a len cap zs h hl => rof_row h hl
set_option maxHeartbeats 4000000 in
theorem word4_run (zs : List Int) (nn : Bool) (cap : Option Nat) (i : Nat) (hz : bytesB zs = true) (h : i + 1 < zs.length) (hl : zs.length ≤ 1099511627776) : runF Try.prog K0 Dm 100000 1 114 [.sl nn (B8 zs) zs.length cap, .v (.int .i64 (i : Int))] = some (.v (.int .i64 (w16 zs i)), []) := by
  have h1 : i < zs.length := by omega
  have g0 := gb_range hz i
  have g1 := gb_range hz (i + 1)
  have w1 : IntKind.i64.wrap ((i : Int) + 1) = ((i + 1 : Nat) : Int) := by rw [wrap64_id (by omega) (by omega)]; omega
  have w2 : IntKind.i64.wrap (gb zs i) = gb zs i := wrap64_id (by omega) (by omega)
  have w3 : IntKind.i64.wrap (gb zs (i + 1)) = gb zs (i + 1) := wrap64_id (by omega) (by omega)
  have w4 : IntKind.i64.wrap (gb zs i * 256) = gb zs i * 256 := wrap64_id (by omega) (by omega)
  have o1 : bits .or .i64 (gb zs i * 256) (gb zs (i + 1)) = w16 zs i := ori64_256 _ _ g0.1 g0.2 g1.1 g1.2
  have i1 : 0 ≤ (i : Int) + 1 ∧ (i : Int) + 1 < (zs.length : Int) := by omega
  unfold runF
  rw [pvCall_own (fn := Try.f114) rfl Try.func114 rfl (by decide) rfl rfl (by simp)]
  simp -implicitDefEqProofs [h1, h, B8_at0, w1, w2, w3, w4, o1, i1, IntKind.bits]
set_option maxHeartbeats 4000000 in
theorem two4_run' (zs : List Int) (nn : Bool) (cap : Option Nat) (i : Nat) (hz : bytesB zs = true) (h : i + 1 < zs.length) (hl : zs.length ≤ 1099511627776) : runF Try.prog K0 Dm 100000 1 159 [.sl nn (B8 zs) zs.length cap, .v (.int .i64 (i : Int))] = some (.v (.int .i64 (w16 zs i)), []) := by
  have h1 : i < zs.length := by omega
  have g0 := gb_range hz i
  have g1 := gb_range hz (i + 1)
  have w1 : IntKind.i64.wrap ((i : Int) + 1) = ((i + 1 : Nat) : Int) := by rw [wrap64_id (by omega) (by omega)]; omega
  have w2 : IntKind.i64.wrap (gb zs i) = gb zs i := wrap64_id (by omega) (by omega)
  have w3 : IntKind.i64.wrap (gb zs (i + 1)) = gb zs (i + 1) := wrap64_id (by omega) (by omega)
  have w4 : IntKind.i64.wrap (gb zs i * 256) = gb zs i * 256 := wrap64_id (by omega) (by omega)
  have o1 : IntKind.i64.wrap (gb zs i * 256 + gb zs (i + 1)) = w16 zs i := wrap64_id (by omega) (by omega)
  have i1 : 0 ≤ (i : Int) + 1 ∧ (i : Int) + 1 < (zs.length : Int) := by omega
  unfold runF
  rw [pvCall_own (fn := Try.f159) rfl Try.func159 rfl (by decide) rfl rfl (by simp)]
  simp -implicitDefEqProofs [h1, h, B8_at0, w1, w2, w3, w4, o1, i1, IntKind.bits]
def fWord4 : Fun
  | [.sl nn b len cap, .v (.int .i64 i)] => (asB8 b).bind fun zs => if zs.length = len ∧ len ≤ 1099511627776 ∧ bytesB zs = true ∧ 0 ≤ i ∧ i + 1 < (len : Int) then some (.v (.int .i64 (w16 zs i.toNat)), []) else none
  | _ => none
theorem word4_pure : Pure Try.prog 114 fWord4 := (runF_pure k0_ok follows_mixed dm_ok 100000 1 114).weaken fun args r h => by
  unfold fWord4 at h
  split at h
  · rename_i nn b len cap i
    obtain ⟨zs, hz, he⟩ := Option.bind_eq_some_iff.1 h
    clear h
    split at he
    case isFalse => cases he
    rename_i hh
    obtain ⟨rfl, h1, h2, h3, h4⟩ := hh
    obtain rfl := asB8_eq hz
    obtain ⟨k, rfl⟩ := Int.eq_ofNat_of_zero_le h3
    rw [← he]
    exact word4_run zs nn cap k h2 (by omega) h1
  · cases h
theorem two4_pure : Pure Try.prog 159 fWord4 := (runF_pure k0_ok follows_mixed dm_ok 100000 1 159).weaken fun args r h => by
  unfold fWord4 at h
  split at h
  · rename_i nn b len cap i
    obtain ⟨zs, hz, he⟩ := Option.bind_eq_some_iff.1 h
    clear h
    split at he
    case isFalse => cases he
    rename_i hh
    obtain ⟨rfl, h1, h2, h3, h4⟩ := hh
    obtain rfl := asB8_eq hz
    obtain ⟨k, rfl⟩ := Int.eq_ofNat_of_zero_le h3
    rw [← he]
    exact two4_run' zs nn cap k h2 (by omega) h1
  · cases h
/-- Four bytes as an address. -/
def ad4 (zs : List Int) : List Int := [gb zs 0, gb zs 1, gb zs 2, gb zs 3, 0, 0, 0, 0, 0, 0, 0, 0, 0, 0, 0, 0]
set_option maxHeartbeats 4000000 in
theorem addr_run (zs : List Int) (nn : Bool) (cap : Option Nat) (h : 4 ≤ zs.length) : runF Try.prog K0 Dm 100000 1 161 [.sl nn (B8 zs) zs.length cap] = some (.agg (B8 (ad4 zs)), []) := by
  have l0 : 0 < zs.length := by omega
  have l1 : 1 < zs.length := by omega
  have l2 : 2 < zs.length := by omega
  have l3 : 3 < zs.length := by omega
  have i0 : (0 : Int) < (zs.length : Int) := by omega
  have i1 : (1 : Int) < (zs.length : Int) := by omega
  have i2 : (2 : Int) < (zs.length : Int) := by omega
  have i3 : (3 : Int) < (zs.length : Int) := by omega
  have a0 := B8_at00 zs (by omega)
  have a1 := B8_at0 zs 1 (by omega)
  have a2 := B8_at0 zs 2 (by omega)
  have a3 := B8_at0 zs 3 (by omega)
  unfold runF
  rw [pvCall_own (fn := Try.f161) rfl Try.func161 rfl (by decide) rfl rfl (by simp)]
  simp -implicitDefEqProofs [l0, l1, l2, l3, i0, i1, i2, i3, a0, a1, a2, a3, splice]
  rfl
def fAddr : Fun
  | [.sl nn b len cap] => (asB8 b).bind fun zs => if zs.length = len ∧ 4 ≤ len then some (.agg (B8 (ad4 zs)), []) else none
  | _ => none
theorem addr_pure : Pure Try.prog 161 fAddr := (runF_pure k0_ok follows_mixed dm_ok 100000 1 161).weaken fun args r h => by
  unfold fAddr at h
  split at h
  · rename_i nn b len cap
    obtain ⟨zs, hz, he⟩ := Option.bind_eq_some_iff.1 h
    clear h
    split at he
    case isFalse => cases he
    rename_i hh
    obtain ⟨rfl, h1⟩ := hh
    obtain rfl := asB8_eq hz
    rw [← he]
    exact addr_run zs nn cap h1
  · cases h
end Go.Proofs.Ytmdafjegddnecaa
