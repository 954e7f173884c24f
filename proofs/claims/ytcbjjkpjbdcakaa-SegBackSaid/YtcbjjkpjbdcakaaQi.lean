/- seg.WriteUDP as a function of values; contracts of both writers. -/
import Derived.Test.YtcbjjkpjbdcakaaQh
namespace Go.Proofs.Ytcbjjkpjbdcakaa
open Go.Pm
set_option linter.unusedVariables false
set_option linter.unusedSimpArgs false
set_option maxRecDepth 1000000

def udpA (p0 p1 : Int) (no : Bool) : AV := .agg [.v (.int .u16 p0), .v (.int .u16 p1), .v (.bool no)]
def udpHead (p0 p1 : Int) (ps : List Int) : List Int := hl8 [p0, p1, 8 + (ps.length : Int), 0]
def udpC (c : Int) : Int := if c = 0 then 65535 else c
def udpW (v6 : Bool) (ss ds Z : List Int) : List Int := putSum Z 6 (udpC (ck v6 ss ds 17 Z))
set_option maxHeartbeats 8000000 in
theorem pwu_ok (p0 p1 : Int) (ps : List Int) (v6 : Bool) (ss ds : List Int) (pn : Bool) (pc : Option Nat) (hp : 8 + ps.length ≤ 1660)
    (hs : ss.length = 16) (hd : ds.length = 16) (hz : bytesB ps = true) (bs : bytesB ss = true) (bd : bytesB ds = true) :
    runF Try.prog K3 Dm 100000 1 24 [.v (.bool v6), .agg (B8 ss), .agg (B8 ds), udpA p0 p1 false, .sl pn (B8 ps) ps.length pc] = some (wR (udpW v6 ss ds (udpHead p0 p1 ps ++ ps))) := by
  have e1 : IntKind.i64.wrap (8 + (ps.length : Int)) = 8 + (ps.length : Int) := wrap64_id (by omega) (by omega)
  have q4 : ¬ (1660 : Int) < 8 + (ps.length : Int) := by omega
  have t1 : ss.take 16 = ss := List.take_of_length_le (by omega)
  have t2 : ds.take 16 = ds := List.take_of_length_le (by omega)
  have w1 : (8 + (ps.length : Int)) % 65536 = 8 + (ps.length : Int) := by omega
  obtain ⟨H, hH⟩ : ∃ H, hl8 [p0, p1, 8 + (ps.length : Int), 0] = H := ⟨_, rfl⟩
  have hHl : H.length = 8 := by rw [← hH]; rfl
  have hHb : bytesB H = true := by rw [← hH]; exact hl8_bytes _
  have hH2 : H.take 8 = H := List.take_of_length_le (by omega)
  obtain ⟨Z, hZ⟩ : ∃ Z, H ++ ps = Z := ⟨_, rfl⟩
  have hZl : Z.length = 8 + ps.length := by rw [← hZ]; simp; omega
  have hZb : bytesB Z = true := by rw [← hZ, bytesB_append, hHb, hz]; rfl
  have hZt : Z.take (8 + ps.length) = Z := List.take_of_length_le (by omega)
  have f1 : 6 ≤ 8 + ps.length := by omega
  have f2 : 8 + ps.length ≤ 1099511627776 := by omega
  have f3 : min 2 (8 + ps.length - 6) = 2 := by omega
  have f4 : 6 + (8 + ps.length - 6) ≤ 8 + ps.length := by omega
  have f5 : 0 < 8 + ps.length - 6 := by omega
  have f6 : 6 < 8 + ps.length := by omega
  have f7 : 8 + ps.length ≤ 549755813888 := by omega
  have hZ5 : 8 + ps.length ≤ 500000 := by omega
  have hZW : putSum Z 6 (udpC (ck v6 ss ds 17 Z)) = udpW v6 ss ds (udpHead p0 p1 ps ++ ps) := by rw [← hZ, ← hH]; rfl
  have hWl : (putSum Z 6 (udpC (ck v6 ss ds 17 Z))).length = 8 + ps.length := by simp [putSum, hZl]; omega
  rw [← hZW]
  unfold runF wR
  rw [hWl]
  rw [pvCall_own (fn := Try.f24) rfl Try.func24 rfl (by decide) rfl rfl (by simp)]
  by_cases hc : ck v6 ss ds 17 Z = 0 <;> simp -implicitDefEqProofs [hc, udpC, putSum, udpA, f1, f2, f3, f4, f5, f6, f7, hl8_one, hH, hHl, hHb, hH2, hZ, hZl, hZb, hZt, hZ5, Nat.testBit_eq_decide_div_mod_eq, splice, IntKind.bits, e1, q4, t1, t2, hs, hd, hz, bs, bd, wrapu8_mod, wrapu16_mod, fdiv_nn, w1]
set_option maxHeartbeats 8000000 in
theorem pwu_none (p0 p1 : Int) (ps : List Int) (ss ds : List Int) (pn : Bool) (pc : Option Nat) (hp : 8 + ps.length ≤ 1660)
    (hs : ss.length = 16) (hd : ds.length = 16) (hz : bytesB ps = true) (bs : bytesB ss = true) (bd : bytesB ds = true) :
    runF Try.prog K3 Dm 100000 1 24 [.v (.bool false), .agg (B8 ss), .agg (B8 ds), udpA p0 p1 true, .sl pn (B8 ps) ps.length pc] = some (wR (udpHead p0 p1 ps ++ ps)) := by
  have e1 : IntKind.i64.wrap (8 + (ps.length : Int)) = 8 + (ps.length : Int) := wrap64_id (by omega) (by omega)
  have q4 : ¬ (1660 : Int) < 8 + (ps.length : Int) := by omega
  have t1 : ss.take 16 = ss := List.take_of_length_le (by omega)
  have t2 : ds.take 16 = ds := List.take_of_length_le (by omega)
  have w1 : (8 + (ps.length : Int)) % 65536 = 8 + (ps.length : Int) := by omega
  obtain ⟨H, hH⟩ : ∃ H, hl8 [p0, p1, 8 + (ps.length : Int), 0] = H := ⟨_, rfl⟩
  have hHl : H.length = 8 := by rw [← hH]; rfl
  have hHb : bytesB H = true := by rw [← hH]; exact hl8_bytes _
  have hH2 : H.take 8 = H := List.take_of_length_le (by omega)
  obtain ⟨Z, hZ⟩ : ∃ Z, H ++ ps = Z := ⟨_, rfl⟩
  have hZl : Z.length = 8 + ps.length := by rw [← hZ]; simp; omega
  have hZb : bytesB Z = true := by rw [← hZ, bytesB_append, hHb, hz]; rfl
  have hZt : Z.take (8 + ps.length) = Z := List.take_of_length_le (by omega)
  have f1 : 6 ≤ 8 + ps.length := by omega
  have f2 : 8 + ps.length ≤ 1099511627776 := by omega
  have f3 : min 2 (8 + ps.length - 6) = 2 := by omega
  have f4 : 6 + (8 + ps.length - 6) ≤ 8 + ps.length := by omega
  have f5 : 0 < 8 + ps.length - 6 := by omega
  have f6 : 6 < 8 + ps.length := by omega
  have f7 : 8 + ps.length ≤ 549755813888 := by omega
  have hZ5 : 8 + ps.length ≤ 500000 := by omega
  have hZW : Z = udpHead p0 p1 ps ++ ps := by rw [← hZ, ← hH]; rfl
  rw [← hZW]
  unfold runF wR
  rw [hZl]
  rw [pvCall_own (fn := Try.f24) rfl Try.func24 rfl (by decide) rfl rfl (by simp)]
  simp -implicitDefEqProofs [udpA, f1, f2, f3, f4, f5, f6, f7, hl8_one, hH, hHl, hHb, hH2, hZ, hZl, hZb, hZt, hZ5, Nat.testBit_eq_decide_div_mod_eq, splice, IntKind.bits, e1, q4, t1, t2, hs, hd, hz, bs, bd, wrapu8_mod, wrapu16_mod, fdiv_nn, w1]
set_option maxHeartbeats 8000000 in
theorem pwu_arg (p0 p1 : Int) (ps : List Int)  (ss ds : List Int) (pn : Bool) (pc : Option Nat) (hpl : ps.length ≤ 1700)  :
    runF Try.prog K3 Dm 100000 1 24 [.v (.bool true), .agg (B8 ss), .agg (B8 ds), udpA p0 p1 true, .sl pn (B8 ps) ps.length pc] = some (errW 2) := by
  have e1 : IntKind.i64.wrap (8 + (ps.length : Int)) = 8 + (ps.length : Int) := wrap64_id (by omega) (by omega)
  unfold runF
  rw [pvCall_own (fn := Try.f24) rfl Try.func24 rfl (by decide) rfl rfl (by simp)]
  simp -implicitDefEqProofs [errW, udpA, splice, IntKind.bits, e1, hpl]
set_option maxHeartbeats 8000000 in
theorem pwu_long (p0 p1 : Int) (ps : List Int) (v6 : Bool) (ss ds : List Int) (pn : Bool) (pc : Option Nat) (hpl : ps.length ≤ 1700) (hp : 1660 < 8 + ps.length) :
    runF Try.prog K3 Dm 100000 1 24 [.v (.bool v6), .agg (B8 ss), .agg (B8 ds), udpA p0 p1 false, .sl pn (B8 ps) ps.length pc] = some (errW 3) := by
  have e1 : IntKind.i64.wrap (8 + (ps.length : Int)) = 8 + (ps.length : Int) := wrap64_id (by omega) (by omega)
  have q4 : (1660 : Int) < 8 + (ps.length : Int) := by omega
  unfold runF
  rw [pvCall_own (fn := Try.f24) rfl Try.func24 rfl (by decide) rfl rfl (by simp)]
  simp -implicitDefEqProofs [errW, udpA, splice, IntKind.bits, e1, q4]
set_option maxHeartbeats 8000000 in
theorem pwu_long2 (p0 p1 : Int) (ps : List Int)  (ss ds : List Int) (pn : Bool) (pc : Option Nat) (hpl : ps.length ≤ 1700) (hp : 1660 < 8 + ps.length) :
    runF Try.prog K3 Dm 100000 1 24 [.v (.bool false), .agg (B8 ss), .agg (B8 ds), udpA p0 p1 true, .sl pn (B8 ps) ps.length pc] = some (errW 3) := by
  have e1 : IntKind.i64.wrap (8 + (ps.length : Int)) = 8 + (ps.length : Int) := wrap64_id (by omega) (by omega)
  have q4 : (1660 : Int) < 8 + (ps.length : Int) := by omega
  unfold runF
  rw [pvCall_own (fn := Try.f24) rfl Try.func24 rfl (by decide) rfl rfl (by simp)]
  simp -implicitDefEqProofs [errW, udpA, splice, IntKind.bits, e1, q4]
def asTcp : AV → Option (Int × Int × Int × Int × Int × Int × Int × Int × List Int)
  | .agg [.v (.int .u16 p0), .v (.int .u16 p1), .v (.int .u32 sq), .v (.int .u32 ak), .v (.int .u8 re), .v (.int .u8 fl), .v (.int .u16 wi), .v (.int .u16 ur), .sl on o ol oc] =>
    (asB8 o).bind fun os => if os.length = ol then some (p0, p1, sq, ak, re, fl, wi, ur, os) else none
  | _ => none
theorem asTcp_eq {x : AV} {r} (h : asTcp x = some r) : ∃ on oc, x = tcpA r.1 r.2.1 r.2.2.1 r.2.2.2.1 r.2.2.2.2.1 r.2.2.2.2.2.1 r.2.2.2.2.2.2.1 r.2.2.2.2.2.2.2.1 (.sl on (B8 r.2.2.2.2.2.2.2.2) r.2.2.2.2.2.2.2.2.length oc) := by
  unfold asTcp at h
  split at h
  · rename_i p0 p1 sq ak re fl wi ur on o ol oc
    obtain ⟨os, e, he⟩ := Option.bind_eq_some_iff.1 h
    clear h
    split at he
    case isFalse => cases he
    rename_i hl
    subst hl
    cases he
    obtain rfl := asB8_eq e
    exact ⟨on, oc, rfl⟩
  · cases h
def wtcpV (v6 : Bool) (ss ds : List Int) (p0 p1 sq ak re fl wi ur : Int) (os ps : List Int) : AV × List (List AV) :=
  if 40 < os.length then errW 5 else if ¬ os.length % 4 = 0 then errW 5 else if 15 < re then errW 5 else if 1660 < 20 + os.length + ps.length then errW 3 else wR (tcpW v6 ss ds (tcpHead p0 p1 sq ak re fl wi ur os ++ (os ++ ps)))
def goodW (ss ds ps : List Int) (len : Nat) : Prop := ps.length = len ∧ len ≤ 1700 ∧ ss.length = 16 ∧ ds.length = 16 ∧ bytesB ps = true ∧ bytesB ss = true ∧ bytesB ds = true
instance (ss ds zs : List Int) (len : Nat) : Decidable (goodW ss ds zs len) := by unfold goodW; infer_instance
def goodT (re fl : Int) (os : List Int) : Prop := os.length ≤ 1700 ∧ 0 ≤ re ∧ re ≤ 255 ∧ 0 ≤ fl ∧ fl ≤ 255 ∧ bytesB os = true
instance (re fl : Int) (os : List Int) : Decidable (goodT re fl os) := by unfold goodT; infer_instance
def fWTCP : Fun
  | [.v (.bool v6), .agg a, .agg b, t, .sl nn c len cap] => (asB8 a).bind fun ss => (asB8 b).bind fun ds => (asTcp t).bind fun t => (asB8 c).bind fun ps =>
      if goodW ss ds ps len ∧ goodT t.2.2.2.2.1 t.2.2.2.2.2.1 t.2.2.2.2.2.2.2.2 then some (wtcpV v6 ss ds t.1 t.2.1 t.2.2.1 t.2.2.2.1 t.2.2.2.2.1 t.2.2.2.2.2.1 t.2.2.2.2.2.2.1 t.2.2.2.2.2.2.2.1 t.2.2.2.2.2.2.2.2 ps) else none
  | _ => none
theorem wtcp_pure : Pure Try.prog 22 fWTCP := (runF_pure k3_ok follows_mixed dm_ok 100000 1 22).weaken fun args r h => by
  unfold fWTCP at h
  split at h
  · rename_i v6 a b t nn c len cap
    obtain ⟨ss, e1, h1⟩ := Option.bind_eq_some_iff.1 h
    obtain ⟨ds, e2, h2⟩ := Option.bind_eq_some_iff.1 h1
    obtain ⟨⟨p0, p1, sq, ak, re, fl, wi, ur, os⟩, e4, h3⟩ := Option.bind_eq_some_iff.1 h2
    obtain ⟨ps, e3, he⟩ := Option.bind_eq_some_iff.1 h3
    clear h h1 h2 h3
    split at he
    case isFalse => cases he
    rename_i hh
    obtain ⟨⟨rfl, hl, h1, h2, h3, h4, h5⟩, ⟨g1, g2, g3, g4, g5, g6⟩⟩ := hh
    obtain rfl := asB8_eq e1
    obtain rfl := asB8_eq e2
    obtain rfl := asB8_eq e3
    obtain ⟨on, oc, rfl⟩ := asTcp_eq e4
    rw [← he]
    simp only at g1 g2 g3 g4 g5 g6 ⊢
    unfold wtcpV
    split
    · rename_i q; exact pwt_form1 _ _ _ _ _ _ _ _ os ps v6 ss ds on nn oc cap g1 hl q
    split
    · rename_i q0 q; exact pwt_form2 _ _ _ _ _ _ _ _ os ps v6 ss ds on nn oc cap g1 hl (by omega) q
    split
    · rename_i q0 q1 q; exact pwt_form3 _ _ _ _ _ _ _ _ os ps v6 ss ds on nn oc cap g1 hl (by omega) (by omega) q
    split
    · rename_i q0 q1 q2 q; exact pwt_long _ _ _ _ _ _ _ _ os ps v6 ss ds on nn oc cap g1 hl (by omega) (by omega) (by omega) q
    · rename_i q0 q1 q2 q; exact pwt_ok _ _ _ _ _ _ _ _ os ps v6 ss ds on nn oc cap g2 (by omega) g4 g5 (by omega) (by omega) (by omega) h1 h2 h3 g6 h4 h5
  · cases h
def wudpV (v6 : Bool) (ss ds : List Int) (p0 p1 : Int) (no : Bool) (ps : List Int) : AV × List (List AV) :=
  if no = true ∧ v6 = true then errW 2 else if 1660 < 8 + ps.length then errW 3 else if no = true then wR (udpHead p0 p1 ps ++ ps) else wR (udpW v6 ss ds (udpHead p0 p1 ps ++ ps))
def fWUDP : Fun
  | [.v (.bool v6), .agg a, .agg b, .agg [.v (.int .u16 p0), .v (.int .u16 p1), .v (.bool no)], .sl nn c len cap] => (asB8 a).bind fun ss => (asB8 b).bind fun ds => (asB8 c).bind fun ps =>
      if goodW ss ds ps len then some (wudpV v6 ss ds p0 p1 no ps) else none
  | _ => none
theorem wudp_pure : Pure Try.prog 24 fWUDP := (runF_pure k3_ok follows_mixed dm_ok 100000 1 24).weaken fun args r h => by
  unfold fWUDP at h
  split at h
  · rename_i v6 a b p0 p1 no nn c len cap
    obtain ⟨ss, e1, h1⟩ := Option.bind_eq_some_iff.1 h
    obtain ⟨ds, e2, h2⟩ := Option.bind_eq_some_iff.1 h1
    obtain ⟨ps, e3, he⟩ := Option.bind_eq_some_iff.1 h2
    clear h h1 h2
    split at he
    case isFalse => cases he
    rename_i hh
    obtain ⟨rfl, hl, h1, h2, h3, h4, h5⟩ := hh
    obtain rfl := asB8_eq e1
    obtain rfl := asB8_eq e2
    obtain rfl := asB8_eq e3
    rw [← he]
    unfold wudpV
    cases no with
    | true =>
      cases v6 with
      | true => rw [if_pos ⟨rfl, rfl⟩]; exact pwu_arg p0 p1 ps ss ds nn cap hl
      | false =>
        rw [if_neg (by simp)]
        split
        · rename_i q; exact pwu_long2 p0 p1 ps ss ds nn cap hl q
        · rename_i q; rw [if_pos rfl]; exact pwu_none p0 p1 ps ss ds nn cap (by omega) h1 h2 h3 h4 h5
    | false =>
      rw [if_neg (by simp)]
      split
      · rename_i q; exact pwu_long p0 p1 ps v6 ss ds nn cap hl q
      · rename_i q; rw [if_neg (by simp)]; exact pwu_ok p0 p1 ps v6 ss ds nn cap (by omega) h1 h2 h3 h4 h5
  · cases h
end Go.Proofs.Ytcbjjkpjbdcakaa
