/- seg.two as a function of values; the contract of seg.ReadTCP; seg.ReadUDP. -/
import Derived.Test.YtmdafjegddnecaaQe
namespace Go.Proofs.Ytmdafjegddnecaa
open Go.Pm
set_option linter.unusedVariables false
set_option linter.unusedSimpArgs false
set_option maxRecDepth 1000000

@[simp] theorem w64_0 : IntKind.i64.wrap 0 = 0 := by decide
@[simp] theorem w64_1 : IntKind.i64.wrap 1 = 1 := by decide
@[simp] theorem w64_2 : IntKind.i64.wrap 2 = 2 := by decide
@[simp] theorem w64_3 : IntKind.i64.wrap 3 = 3 := by decide
@[simp] theorem w64_4 : IntKind.i64.wrap 4 = 4 := by decide
@[simp] theorem w64_5 : IntKind.i64.wrap 5 = 5 := by decide
@[simp] theorem w64_6 : IntKind.i64.wrap 6 = 6 := by decide
@[simp] theorem w64_7 : IntKind.i64.wrap 7 = 7 := by decide
@[simp] theorem w64_8 : IntKind.i64.wrap 8 = 8 := by decide
@[simp] theorem w64_9 : IntKind.i64.wrap 9 = 9 := by decide
@[simp] theorem w64_10 : IntKind.i64.wrap 10 = 10 := by decide
@[simp] theorem w64_11 : IntKind.i64.wrap 11 = 11 := by decide
@[simp] theorem w64_12 : IntKind.i64.wrap 12 = 12 := by decide
@[simp] theorem w64_13 : IntKind.i64.wrap 13 = 13 := by decide
@[simp] theorem w64_14 : IntKind.i64.wrap 14 = 14 := by decide
@[simp] theorem w64_15 : IntKind.i64.wrap 15 = 15 := by decide
@[simp] theorem w64_16 : IntKind.i64.wrap 16 = 16 := by decide
@[simp] theorem w64_17 : IntKind.i64.wrap 17 = 17 := by decide
@[simp] theorem w64_18 : IntKind.i64.wrap 18 = 18 := by decide
@[simp] theorem w64_19 : IntKind.i64.wrap 19 = 19 := by decide
@[simp] theorem w64_20 : IntKind.i64.wrap 20 = 20 := by decide
@[simp] theorem w64_21 : IntKind.i64.wrap 21 = 21 := by decide
@[simp] theorem w64_22 : IntKind.i64.wrap 22 = 22 := by decide
@[simp] theorem w64_23 : IntKind.i64.wrap 23 = 23 := by decide
@[simp] theorem w64_24 : IntKind.i64.wrap 24 = 24 := by decide
@[simp] theorem w64_25 : IntKind.i64.wrap 25 = 25 := by decide
@[simp] theorem w64_26 : IntKind.i64.wrap 26 = 26 := by decide
@[simp] theorem w64_27 : IntKind.i64.wrap 27 = 27 := by decide
@[simp] theorem w64_28 : IntKind.i64.wrap 28 = 28 := by decide
@[simp] theorem w64_29 : IntKind.i64.wrap 29 = 29 := by decide
@[simp] theorem w64_30 : IntKind.i64.wrap 30 = 30 := by decide
@[simp] theorem w64_31 : IntKind.i64.wrap 31 = 31 := by decide
@[simp] theorem w64_32 : IntKind.i64.wrap 32 = 32 := by decide
@[simp] theorem w64_33 : IntKind.i64.wrap 33 = 33 := by decide
@[simp] theorem w64_34 : IntKind.i64.wrap 34 = 34 := by decide
@[simp] theorem w64_35 : IntKind.i64.wrap 35 = 35 := by decide
@[simp] theorem w64_36 : IntKind.i64.wrap 36 = 36 := by decide
@[simp] theorem w64_37 : IntKind.i64.wrap 37 = 37 := by decide
@[simp] theorem w64_38 : IntKind.i64.wrap 38 = 38 := by decide
@[simp] theorem w64_39 : IntKind.i64.wrap 39 = 39 := by decide
@[simp] theorem w64_40 : IntKind.i64.wrap 40 = 40 := by decide
theorem wrapu8_mod (x : Int) : IntKind.u8.wrap x = x % 256 := by simp [IntKind.wrap, IntKind.signed, IntKind.bits]
theorem fdiv_nn {x y : Int} (h : 0 ≤ y) : x.fdiv y = x / y := Int.fdiv_eq_ediv_of_nonneg _ h

def hl8 : List Int → List Int
  | [] => []
  | x :: xs => (x / 256 % 256) :: (x % 256) :: hl8 xs
@[simp] def W16 : List Int → List AV
  | [] => []
  | x :: xs => .v (.int .u16 x) :: W16 xs
set_option maxHeartbeats 8000000 in
theorem two1_run (x0 : Int) (nn : Bool) (cap : Option Nat) : runF Try.prog K2 Dm 100000 1 166 [.sl nn (W16 [x0]) 1 cap] = some (.own 0 0 0 2 1 (.whole 5), [B8 (hl8 [x0])]) := by
  unfold runF
  rw [pvCall_own (fn := Try.f166) rfl Try.func166 rfl (by decide) rfl rfl (by simp)]
  simp -implicitDefEqProofs [hl8, B8, loopK_pos, splice, wrapu8_mod, fdiv_nn, IntKind.bits]
set_option maxHeartbeats 8000000 in
theorem two4_run (x0 x1 x2 x3 : Int) (nn : Bool) (cap : Option Nat) : runF Try.prog K2 Dm 100000 1 166 [.sl nn (W16 [x0, x1, x2, x3]) 4 cap] = some (.own 0 0 0 8 1 (.whole 5), [B8 (hl8 [x0, x1, x2, x3])]) := by
  unfold runF
  rw [pvCall_own (fn := Try.f166) rfl Try.func166 rfl (by decide) rfl rfl (by simp)]
  simp -implicitDefEqProofs [hl8, B8, loopK_pos, splice, wrapu8_mod, fdiv_nn, IntKind.bits]
set_option maxHeartbeats 8000000 in
theorem two10_run (x0 x1 x2 x3 x4 x5 x6 x7 x8 x9 : Int) (nn : Bool) (cap : Option Nat) : runF Try.prog K2 Dm 100000 1 166 [.sl nn (W16 [x0, x1, x2, x3, x4, x5, x6, x7, x8, x9]) 10 cap] = some (.own 0 0 0 20 1 (.whole 5), [B8 (hl8 [x0, x1, x2, x3, x4, x5, x6, x7, x8, x9])]) := by
  unfold runF
  rw [pvCall_own (fn := Try.f166) rfl Try.func166 rfl (by decide) rfl rfl (by simp)]
  simp -implicitDefEqProofs [hl8, B8, loopK_pos, splice, wrapu8_mod, fdiv_nn, IntKind.bits]
def asW16 : List AV → Option (List Int)
  | [] => some []
  | .v (.int .u16 x) :: xs => (asW16 xs).map (x :: ·)
  | _ => none
theorem asW16_eq : ∀ {xs : List AV} {ns : List Int}, asW16 xs = some ns → xs = W16 ns := by
  intro xs
  induction xs with
  | nil => intro ns h; cases h; rfl
  | cons x xs ih =>
    intro ns h
    unfold asW16 at h
    split at h
    · rename_i h1; cases h1
    · rename_i x' xs' h1
      cases h1
      obtain ⟨ms, h2, rfl⟩ := Option.map_eq_some_iff.1 h
      rw [ih h2]; rfl
    · cases h
@[simp] theorem asW16_nil : asW16 [] = some [] := rfl
@[simp] theorem asW16_cons (x : Int) (xs : List AV) : asW16 (.v (.int .u16 x) :: xs) = (asW16 xs).map (x :: ·) := rfl
def fTwo : Fun
  | [.sl nn c len cap] => (asW16 c).bind fun ns => if ns.length = len ∧ (len = 1 ∨ len = 4 ∨ len = 10) then some (.own 0 0 0 (2 * len) 1 (.whole 5), [B8 (hl8 ns)]) else none
  | _ => none
theorem two_pure : Pure Try.prog 166 fTwo := (runF_pure k2_ok follows_mixed dm_ok 100000 1 166).weaken fun args r h => by
  unfold fTwo at h
  split at h
  · rename_i nn c len cap
    obtain ⟨ns, hz, he⟩ := Option.bind_eq_some_iff.1 h
    clear h
    split at he
    case isFalse => cases he
    rename_i hh
    obtain ⟨rfl, h1⟩ := hh
    obtain rfl := asW16_eq hz
    rw [← he]
    rcases h1 with h1 | h1 | h1
    · match ns, h1 with
      | [a], _ => exact two1_run a nn cap
    · match ns, h1 with
      | [a, b, c, d], _ => exact two4_run a b c d nn cap
    · match ns, h1 with
      | [a, b, c, d, e, f, g, h, i, j], _ => exact two10_run a b c d e f g h i j nn cap
  · cases h

def tcpV (v6 : Bool) (ss ds zs : List Int) : AV × List (List AV) :=
  if zs.length < 20 then errT 4 else if gb zs 12 / 16 < 5 then errT 5 else if (zs.length : Int) < gb zs 12 / 16 * 4 then errT 4 else if ck v6 ss ds 6 zs = 0 then tcpR zs (gb zs 12 / 16 * 4).toNat else errT 6
def goodIn (ss ds zs : List Int) (len : Nat) : Prop := zs.length = len ∧ len ≤ 500000 ∧ ss.length = 16 ∧ ds.length = 16 ∧ bytesB zs = true ∧ bytesB ss = true ∧ bytesB ds = true
instance (ss ds zs : List Int) (len : Nat) : Decidable (goodIn ss ds zs len) := by unfold goodIn; infer_instance
def fTCP : Fun
  | [.v (.bool v6), .agg a, .agg b, .sl nn c len cap] => (asB8 a).bind fun ss => (asB8 b).bind fun ds => (asB8 c).bind fun zs => if goodIn ss ds zs len then some (tcpV v6 ss ds zs) else none
  | _ => none
theorem tcp_pure : Pure Try.prog 128 fTCP := (runF_pure k2_ok follows_mixed dm_ok 100000 1 128).weaken fun args r h => by
  unfold fTCP at h
  split at h
  · rename_i v6 a b nn c len cap
    obtain ⟨ss, e1, h1⟩ := Option.bind_eq_some_iff.1 h
    obtain ⟨ds, e2, h2⟩ := Option.bind_eq_some_iff.1 h1
    obtain ⟨zs, e3, he⟩ := Option.bind_eq_some_iff.1 h2
    clear h h1 h2
    split at he
    case isFalse => cases he
    rename_i hh
    obtain ⟨rfl, hl, h1, h2, h3, h4, h5⟩ := hh
    obtain rfl := asB8_eq e1
    obtain rfl := asB8_eq e2
    obtain rfl := asB8_eq e3
    rw [← he]
    have g12 := gb_range h3 12
    unfold tcpV
    split
    · rename_i q; exact ptcp_short zs v6 ss ds nn cap q
    split
    · rename_i q0 q; exact ptcp_form zs v6 ss ds nn cap (by omega) h3 q
    split
    · rename_i q0 q1 q; exact ptcp_short2 zs v6 ss ds nn cap (by omega) h3 (by omega) q
    split
    · rename_i q0 q1 q2 q; exact ptcp_ok zs v6 ss ds nn cap _ (by omega) (by omega) (by omega) (by omega) h1 h2 h3 h4 h5 hl q
    · rename_i q0 q1 q2 q; exact ptcp_sum zs v6 ss ds nn cap (by omega) h3 (by omega) (by omega) h1 h2 h4 h5 hl q
  · cases h
end Go.Proofs.Ytmdafjegddnecaa
