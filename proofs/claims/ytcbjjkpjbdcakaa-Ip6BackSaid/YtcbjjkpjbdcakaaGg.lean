/- Contracts of IPv6's writers, of Same and of the page's examples. -/
import Derived.Test.YtcbjjkpjbdcakaaGf
import Derived.Test.YtcbjjkpjbdcakaaMc
namespace Go.Proofs.Ytcbjjkpjbdcakaa
open Go.Pm Go.Wb
set_option linter.unusedVariables false
set_option linter.unusedSimpArgs false
set_option maxRecDepth 1000000
abbrev I6 := Int × Int × Int × Int × Int × List Int × List Int × List Int
def asI6c (cl la nx pr ho : Int) (ss ds : List Int) : List AV → Option I6
  | [.sl nn b len cap] => (asB8 b).bind fun cs => if cs.length = len then some (cl, la, nx, pr, ho, ss, ds, cs) else none
  | _ => none
def asI6 : AV → Option I6
  | .agg (.v (.int .u8 cl) :: .v (.int .u32 la) :: .v (.int .u8 nx) :: .v (.int .u8 pr) :: .v (.int .u8 ho) :: rest) =>
    (asB8 (rest.take 16)).bind fun ss => (asB8 ((rest.drop 16).take 16)).bind fun ds => asI6c cl la nx pr ho ss ds (rest.drop 32)
  | _ => none
theorem asI6_eq {x : AV} {r : I6} (h : asI6 x = some r) : ∃ cn cc, x = ip6A r.1 r.2.1 r.2.2.1 r.2.2.2.1 r.2.2.2.2.1 r.2.2.2.2.2.1 r.2.2.2.2.2.2.1 (.sl cn (B8 r.2.2.2.2.2.2.2) r.2.2.2.2.2.2.2.length cc) := by
  unfold asI6 at h
  split at h
  · rename_i cl la nx pr ho rest
    obtain ⟨ss, h1, h⟩ := Option.bind_eq_some_iff.1 h
    obtain ⟨ds, h2, h⟩ := Option.bind_eq_some_iff.1 h
    unfold asI6c at h
    split at h
    · rename_i nn b len cap hr
      obtain ⟨cs, h3, h⟩ := Option.bind_eq_some_iff.1 h
      split at h
      · rename_i hl
        cases h
        subst hl
        have e1 := asB8_eq h1
        have e2 := asB8_eq h2
        have e3 := asB8_eq h3
        subst e3
        refine ⟨nn, cap, ?_⟩
        have : rest = B8 ss ++ (B8 ds ++ [.sl nn (B8 cs) cs.length cap]) := by
          rw [← e1, ← e2, ← hr, ← List.take_append_drop 16 rest]
          simp only [List.take_append_drop]
          conv => lhs; rw [← List.take_append_drop 16 rest]
          congr 1
          conv => lhs; rw [← List.take_append_drop 16 (rest.drop 16)]
          rw [List.drop_drop]
        rw [this]
        rfl
      · cases h
    · cases h
  · cases h
theorem asI6_at {cl la nx pr ho : Int} {ss ds cs : List Int} {len : Nat} (hs : ss.length = 16) (hd : ds.length = 16) (hc : cs.length = len) (nn : Bool) (cap : Option Nat) : asI6 (.agg (.v (.int .u8 cl) :: .v (.int .u32 la) :: .v (.int .u8 nx) :: .v (.int .u8 pr) :: .v (.int .u8 ho) :: (B8 ss ++ (B8 ds ++ [.sl nn (B8 cs) len cap])))) = some (cl, la, nx, pr, ho, ss, ds, cs) := by
  show (asB8 ((B8 ss ++ _).take 16)).bind _ = _
  rw [B8t16 hs, B8d16 hs, B8t16 hd, B8d32 hs, B8d16 hd]
  simp [asI6c, hc]
def fW6 : Fun := fun args => match args.map AV.norm with
  | [t, .sl nn c len cap] => (asI6 t).bind fun t => (asB8 c).bind fun ps => if good6 t.1 t.2.1 t.2.2.1 t.2.2.2.1 t.2.2.2.2.1 t.2.2.2.2.2.1 t.2.2.2.2.2.2.1 t.2.2.2.2.2.2.2 ∧ ps.length = len ∧ len ≤ 500000 then
      some (w6V t.1 t.2.1 t.2.2.1 t.2.2.2.1 t.2.2.2.2.1 t.2.2.2.2.2.1 t.2.2.2.2.2.2.1 t.2.2.2.2.2.2.2 ps) else none
  | _ => none
theorem w6_pure : Pure Try.prog 39 fW6 := ((runF_pure kb_ok follows_mixed dm_ok 100000 1 39).norm).weaken fun args r h => by
  unfold fW6 at h
  generalize args.map AV.norm = args at h ⊢
  split at h
  · rename_i t nn c len cap
    obtain ⟨⟨cl, la, nx, pr, ho, ss, ds, cs⟩, e1, h1⟩ := Option.bind_eq_some_iff.1 h
    obtain ⟨ps, e2, he⟩ := Option.bind_eq_some_iff.1 h1
    clear h h1
    split at he
    case isFalse => cases he
    rename_i hh
    simp only at hh he
    obtain ⟨h1, rfl, h3⟩ := hh
    obtain ⟨cn, cc, rfl⟩ := asI6_eq e1
    obtain rfl := asB8_eq e2
    rw [← he]
    unfold w6V
    split
    · rename_i q; exact pw6_bad cl la nx pr ho ss ds cs ps cn nn cc cap h1 h3 q
    split
    · rename_i q q1; exact pw6_long cl la nx pr ho ss ds cs ps cn nn cc cap h1 h3 q q1
    · rename_i q q1; exact pw6_ok cl la nx pr ho ss ds cs ps cn nn cc cap h1 h3 q (by omega)
  · cases h
theorem rw6_pure : Pure Try.prog 40 fW6 := ((runF_pure kc_ok follows_mixed dm_ok 100000 1 40).norm).weaken fun args r h => by
  unfold fW6 at h
  generalize args.map AV.norm = args at h ⊢
  split at h
  · rename_i t nn c len cap
    obtain ⟨⟨cl, la, nx, pr, ho, ss, ds, cs⟩, e1, h1⟩ := Option.bind_eq_some_iff.1 h
    obtain ⟨ps, e2, he⟩ := Option.bind_eq_some_iff.1 h1
    clear h h1
    split at he
    case isFalse => cases he
    rename_i hh
    simp only at hh he
    obtain ⟨h1, rfl, h3⟩ := hh
    obtain ⟨cn, cc, rfl⟩ := asI6_eq e1
    obtain rfl := asB8_eq e2
    rw [← he]
    unfold w6V
    split
    · rename_i q; exact rw6_bad cl la nx pr ho ss ds cs ps cn nn cc cap h1 h3 q
    split
    · rename_i q q1; exact rw6_long cl la nx pr ho ss ds cs ps cn nn cc cap h1 h3 q q1
    · rename_i q q1; exact rw6_ok cl la nx pr ho ss ds cs ps cn nn cc cap h1 h3 q (by omega)
  · cases h
set_option maxHeartbeats 8000000 in
theorem same6_run (cl la nx pr ho : Int) (ss ds cs : List Int) (cn cn' : Bool) (cc cc' : Option Nat) (hs : ss.length = 16) (hd : ds.length = 16) (hl : cs.length ≤ 500000) :
    runF Try.prog K0 Dm 100000 1 38 [ip6A cl la nx pr ho ss ds (.sl cn (B8 cs) cs.length cc), ip6A cl la nx pr ho ss ds (.sl cn' (B8 cs) cs.length cc')] = some (.v (.bool true), []) := by
  have l1 : cs.length ≤ 9223372036854775807 := by omega
  unfold runF
  rw [pvCall_own (fn := Try.f38) rfl Try.func38 rfl (by decide) rfl rfl (by simp)]
  simp -implicitDefEqProofs [Nat.testBit_eq_decide_div_mod_eq, ip6A, splice, IntKind.bits, l1, hs, hd, B8t16 hs, B8d16 hs, B8t16 hd, B8d16 hd, B8d32 hs, B8g32 hs, B8g16 hd, B8g16 hs, pairOk16 hs hs, pairOk16 hd hd, eqV_same]
def like6 (x y : I6) : Prop := x.1 = y.1 ∧ x.2.1 = y.2.1 ∧ x.2.2.1 = y.2.2.1 ∧ x.2.2.2.1 = y.2.2.2.1 ∧ x.2.2.2.2.1 = y.2.2.2.2.1 ∧ x.2.2.2.2.2.1 = y.2.2.2.2.2.1 ∧ x.2.2.2.2.2.2.1 = y.2.2.2.2.2.2.1 ∧ x.2.2.2.2.2.2.2 = y.2.2.2.2.2.2.2
instance (x y : I6) : Decidable (like6 x y) := by unfold like6; infer_instance
theorem like6_self (x : I6) : like6 x x := ⟨rfl, rfl, rfl, rfl, rfl, rfl, rfl, rfl⟩
theorem like6_eq {x y : I6} (h : like6 x y) : x = y := by
  obtain ⟨a, b, c, d, e, f, g, i⟩ := x
  obtain ⟨a', b', c', d', e', f', g', i'⟩ := y
  obtain ⟨h1, h2, h3, h4, h5, h6, h7, h8⟩ := h
  simp only at h1 h2 h3 h4 h5 h6 h7 h8
  subst h1 h2 h3 h4 h5 h6 h7 h8
  rfl
attribute [simp] like6_self
def fSame6 : Fun := fun args => match args.map AV.norm with
  | [a, b] => (asI6 a).bind fun x => (asI6 b).bind fun y => if like6 x y ∧ x.2.2.2.2.2.1.length = 16 ∧ x.2.2.2.2.2.2.1.length = 16 ∧ x.2.2.2.2.2.2.2.length ≤ 500000 then some (.v (.bool true), []) else none
  | _ => none
theorem same6_pure : Pure Try.prog 38 fSame6 := ((runF_pure k0_ok follows_mixed dm_ok 100000 1 38).norm).weaken fun args r h => by
  unfold fSame6 at h
  generalize args.map AV.norm = args at h ⊢
  split at h
  · rename_i a b
    obtain ⟨⟨cl, la, nx, pr, ho, ss, ds, cs⟩, e1, h1⟩ := Option.bind_eq_some_iff.1 h
    obtain ⟨y, e2, he⟩ := Option.bind_eq_some_iff.1 h1
    clear h h1
    split at he
    case isFalse => cases he
    rename_i hh
    simp only at hh
    obtain ⟨h0, h1, h2, h3⟩ := hh
    obtain rfl := like6_eq h0
    obtain ⟨cn, cc, rfl⟩ := asI6_eq e1
    obtain ⟨cn', cc', rfl⟩ := asI6_eq e2
    rw [← he]
    exact same6_run cl la nx pr ho ss ds cs cn cn' cc cc' h1 h2 h3
  · cases h
end Go.Proofs.Ytcbjjkpjbdcakaa
