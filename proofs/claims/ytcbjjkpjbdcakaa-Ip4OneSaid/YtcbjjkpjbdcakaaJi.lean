/- Contracts of IPv4's writers and of Same. -/
import Derived.Test.YtcbjjkpjbdcakaaJh
namespace Go.Proofs.Ytcbjjkpjbdcakaa
open Go.Pm Go.Wb
set_option linter.unusedVariables false
set_option linter.unusedSimpArgs false
set_option maxRecDepth 1000000
abbrev I4 := Int × Int × Bool × Int × Int × List Int × List Int × List Int
def asI4c (tos id : Int) (df : Bool) (ttl pr : Int) (ss ds : List Int) : List AV → Option I4
  | [.sl nn b len cap] => (asB8 b).bind fun cs => if cs.length = len then some (tos, id, df, ttl, pr, ss, ds, cs) else none
  | _ => none
def asI4 : AV → Option I4
  | .agg (.v (.int .u8 tos) :: .v (.int .u16 id) :: .v (.bool df) :: .v (.int .u8 ttl) :: .v (.int .u8 pr) :: rest) =>
    (asB8 (rest.take 16)).bind fun ss => (asB8 ((rest.drop 16).take 16)).bind fun ds => asI4c tos id df ttl pr ss ds (rest.drop 32)
  | _ => none
theorem asI4_eq {x : AV} {r : I4} (h : asI4 x = some r) : ∃ cn cc, x = ip4A r.1 r.2.1 r.2.2.1 r.2.2.2.1 r.2.2.2.2.1 r.2.2.2.2.2.1 r.2.2.2.2.2.2.1 (.sl cn (B8 r.2.2.2.2.2.2.2) r.2.2.2.2.2.2.2.length cc) := by
  unfold asI4 at h
  split at h
  · rename_i tos id df ttl pr rest
    obtain ⟨ss, h1, h⟩ := Option.bind_eq_some_iff.1 h
    obtain ⟨ds, h2, h⟩ := Option.bind_eq_some_iff.1 h
    unfold asI4c at h
    split at h
    · rename_i nn b len cap hr
      obtain ⟨cs, h3, h⟩ := Option.bind_eq_some_iff.1 h
      split at h
      · rename_i hl
        cases h
        subst hl
        have e1 := asB8_eq h1
        have e2 := asB8_eq h2
        have e3 := asB8_eq h3
        subst e3
        refine ⟨nn, cap, ?_⟩
        have : rest = B8 ss ++ (B8 ds ++ [.sl nn (B8 cs) cs.length cap]) := by
          rw [← e1, ← e2, ← hr, ← List.take_append_drop 16 rest]
          simp only [List.take_append_drop]
          conv => lhs; rw [← List.take_append_drop 16 rest]
          congr 1
          conv => lhs; rw [← List.take_append_drop 16 (rest.drop 16)]
          rw [List.drop_drop]
        rw [this]
        rfl
      · cases h
    · cases h
  · cases h
theorem asI4_at {tos id : Int} {df : Bool} {ttl pr : Int} {ss ds cs : List Int} {len : Nat} (hs : ss.length = 16) (hd : ds.length = 16) (hc : cs.length = len) (nn : Bool) (cap : Option Nat) : asI4 (.agg (.v (.int .u8 tos) :: .v (.int .u16 id) :: .v (.bool df) :: .v (.int .u8 ttl) :: .v (.int .u8 pr) :: (B8 ss ++ (B8 ds ++ [.sl nn (B8 cs) len cap])))) = some (tos, id, df, ttl, pr, ss, ds, cs) := by
  show (asB8 ((B8 ss ++ _).take 16)).bind _ = _
  rw [B8t16 hs, B8d16 hs, B8t16 hd, B8d32 hs, B8d16 hd]
  simp [asI4c, hc]
def fW4 : Fun := fun args => match args.map AV.norm with
  | [t, .sl nn c len cap] => (asI4 t).bind fun t => (asB8 c).bind fun ps => if good4 t.1 t.2.1 t.2.2.2.1 t.2.2.2.2.1 t.2.2.2.2.2.1 t.2.2.2.2.2.2.1 t.2.2.2.2.2.2.2 ∧ ps.length = len ∧ len ≤ 9223372036854775807 then
      some (w4V t.1 t.2.1 t.2.2.1 t.2.2.2.1 t.2.2.2.2.1 t.2.2.2.2.2.1 t.2.2.2.2.2.2.1 t.2.2.2.2.2.2.2 ps) else none
  | _ => none
def fRW4 : Fun := fun args => match args.map AV.norm with
  | [t, .sl nn c len cap] => (asI4 t).bind fun t => (asB8 c).bind fun ps => if good4 t.1 t.2.1 t.2.2.2.1 t.2.2.2.2.1 t.2.2.2.2.2.1 t.2.2.2.2.2.2.1 t.2.2.2.2.2.2.2 ∧ ps.length = len ∧ len ≤ 500000 then
      some (w4V t.1 t.2.1 t.2.2.1 t.2.2.2.1 t.2.2.2.2.1 t.2.2.2.2.2.1 t.2.2.2.2.2.2.1 t.2.2.2.2.2.2.2 ps) else none
  | _ => none
theorem w4_pure : Pure Try.prog 30 fW4 := ((runF_pure kg_ok follows_mixed dm_ok 100000 2 30).norm).weaken fun args r h => by
  unfold fW4 at h
  generalize args.map AV.norm = args at h ⊢
  split at h
  · rename_i t nn c len cap
    obtain ⟨⟨tos, id, df, ttl, pr, ss, ds, cs⟩, e1, h1⟩ := Option.bind_eq_some_iff.1 h
    obtain ⟨ps, e2, he⟩ := Option.bind_eq_some_iff.1 h1
    clear h h1
    split at he
    case isFalse => cases he
    rename_i hh
    simp only at hh he
    obtain ⟨h1, rfl, h3⟩ := hh
    obtain ⟨cn, cc, rfl⟩ := asI4_eq e1
    obtain rfl := asB8_eq e2
    rw [← he]
    unfold w4V
    split
    · rename_i q; exact pw4_opt tos id df ttl pr ss ds cs ps cn nn cc cap h1 h3 q
    split
    · rename_i q q1; exact pw4_bad tos id df ttl pr ss ds cs ps cn nn cc cap h1 h3 (by simpa using q) q1
    split
    · rename_i q q1 q2; exact pw4_long tos id df ttl pr ss ds cs ps cn nn cc cap h1 h3 (by simpa using q) q1 q2
    · rename_i q q1 q2; exact pw4_ok tos id df ttl pr ss ds cs ps cn nn cc cap h1 h3 (by simpa using q) q1 (by omega)
  · cases h
theorem rw4_pure : Pure Try.prog 31 fRW4 := ((runF_pure kg_ok follows_mixed dm_ok 100000 1 31).norm).weaken fun args r h => by
  unfold fRW4 at h
  generalize args.map AV.norm = args at h ⊢
  split at h
  · rename_i t nn c len cap
    obtain ⟨⟨tos, id, df, ttl, pr, ss, ds, cs⟩, e1, h1⟩ := Option.bind_eq_some_iff.1 h
    obtain ⟨ps, e2, he⟩ := Option.bind_eq_some_iff.1 h1
    clear h h1
    split at he
    case isFalse => cases he
    rename_i hh
    simp only at hh he
    obtain ⟨h1, rfl, h3⟩ := hh
    obtain ⟨cn, cc, rfl⟩ := asI4_eq e1
    obtain rfl := asB8_eq e2
    rw [← he]
    unfold w4V
    split
    · rename_i q; exact rw4_opt tos id df ttl pr ss ds cs ps cn nn cc cap h1 h3 q
    split
    · rename_i q q1; exact rw4_bad tos id df ttl pr ss ds cs ps cn nn cc cap h1 h3 (by simpa using q) q1
    split
    · rename_i q q1 q2; exact rw4_long tos id df ttl pr ss ds cs ps cn nn cc cap h1 h3 (by simpa using q) q1 q2
    · rename_i q q1 q2; exact rw4_ok tos id df ttl pr ss ds cs ps cn nn cc cap h1 h3 (by simpa using q) q1 (by omega)
  · cases h
set_option maxHeartbeats 8000000 in
theorem same4_run (tos id : Int) (df : Bool) (ttl pr : Int) (ss ds cs : List Int) (cn cn' : Bool) (cc cc' : Option Nat) (hs : ss.length = 16) (hd : ds.length = 16) (hl : cs.length ≤ 500000) :
    runF Try.prog K0 Dm 100000 1 29 [ip4A tos id df ttl pr ss ds (.sl cn (B8 cs) cs.length cc), ip4A tos id df ttl pr ss ds (.sl cn' (B8 cs) cs.length cc')] = some (.v (.bool true), []) := by
  have l1 : cs.length ≤ 9223372036854775807 := by omega
  unfold runF
  rw [pvCall_own (fn := Try.f29) rfl Try.func29 rfl (by decide) rfl rfl (by simp)]
  simp -implicitDefEqProofs [Nat.testBit_eq_decide_div_mod_eq, ip4A, splice, IntKind.bits, l1, hs, hd, B8t16 hs, B8d16 hs, B8t16 hd, B8d16 hd, B8d32 hs, B8g32 hs, B8g16 hd, B8g16 hs, pairOk16 hs hs, pairOk16 hd hd, eqV_same]
def like4 (x y : I4) : Prop := x.1 = y.1 ∧ x.2.1 = y.2.1 ∧ x.2.2.1 = y.2.2.1 ∧ x.2.2.2.1 = y.2.2.2.1 ∧ x.2.2.2.2.1 = y.2.2.2.2.1 ∧ x.2.2.2.2.2.1 = y.2.2.2.2.2.1 ∧ x.2.2.2.2.2.2.1 = y.2.2.2.2.2.2.1 ∧ x.2.2.2.2.2.2.2 = y.2.2.2.2.2.2.2
instance (x y : I4) : Decidable (like4 x y) := by unfold like4; infer_instance
theorem like4_self (x : I4) : like4 x x := ⟨rfl, rfl, rfl, rfl, rfl, rfl, rfl, rfl⟩
theorem like4_eq {x y : I4} (h : like4 x y) : x = y := by
  obtain ⟨a, b, c, d, e, f, g, i⟩ := x
  obtain ⟨a', b', c', d', e', f', g', i'⟩ := y
  obtain ⟨h1, h2, h3, h4, h5, h6, h7, h8⟩ := h
  simp only at h1 h2 h3 h4 h5 h6 h7 h8
  subst h1 h2 h3 h4 h5 h6 h7 h8
  rfl
attribute [simp] like4_self
def fSame4 : Fun := fun args => match args.map AV.norm with
  | [a, b] => (asI4 a).bind fun x => (asI4 b).bind fun y => if like4 x y ∧ x.2.2.2.2.2.1.length = 16 ∧ x.2.2.2.2.2.2.1.length = 16 ∧ x.2.2.2.2.2.2.2.length ≤ 500000 then some (.v (.bool true), []) else none
  | _ => none
theorem same4_pure : Pure Try.prog 29 fSame4 := ((runF_pure k0_ok follows_mixed dm_ok 100000 1 29).norm).weaken fun args r h => by
  unfold fSame4 at h
  generalize args.map AV.norm = args at h ⊢
  split at h
  · rename_i a b
    obtain ⟨⟨tos, id, df, ttl, pr, ss, ds, cs⟩, e1, h1⟩ := Option.bind_eq_some_iff.1 h
    obtain ⟨y, e2, he⟩ := Option.bind_eq_some_iff.1 h1
    clear h h1
    split at he
    case isFalse => cases he
    rename_i hh
    simp only at hh
    obtain ⟨h0, h1, h2, h3⟩ := hh
    obtain rfl := like4_eq h0
    obtain ⟨cn, cc, rfl⟩ := asI4_eq e1
    obtain ⟨cn', cc', rfl⟩ := asI4_eq e2
    rw [← he]
    exact same4_run tos id df ttl pr ss ds cs cn cn' cc cc' h1 h2 h3
  · cases h
end Go.Proofs.Ytcbjjkpjbdcakaa

