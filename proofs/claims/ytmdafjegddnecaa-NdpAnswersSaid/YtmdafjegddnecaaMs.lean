import Derived.Test.YtmdafjegddnecaaTx
import Derived.Test.YtmdafjegddnecaaMr
import Derived.Test.YtmdafjegddnecaaLr
/- Who is answered: the reference's Answer as a function of values. -/
namespace Go.Proofs.Ytmdafjegddnecaa
open Go.Pm Go.Wb
set_option linter.unusedVariables false
set_option linter.unusedSimpArgs false
set_option maxRecDepth 1000000
set_option maxHeartbeats 16000000 in
theorem nzero_run (S : List Int) (hS : S.length = 16) : runF Try.prog KN Dm 100000 1 61 [.agg (B8 S)] = some (.v (.bool (decide (S = z16))), []) := by
  obtain ⟨x0, x1, x2, x3, x4, x5, x6, x7, x8, x9, x10, x11, x12, x13, x14, x15, rfl⟩ : ∃ x0 x1 x2 x3 x4 x5 x6 x7 x8 x9 x10 x11 x12 x13 x14 x15, S = [x0, x1, x2, x3, x4, x5, x6, x7, x8, x9, x10, x11, x12, x13, x14, x15] := by
    match S, hS with
    | [x0, x1, x2, x3, x4, x5, x6, x7, x8, x9, x10, x11, x12, x13, x14, x15], _ => exact ⟨x0, x1, x2, x3, x4, x5, x6, x7, x8, x9, x10, x11, x12, x13, x14, x15, rfl⟩
  unfold runF z16
  rw [pvCall_own (fn := Try.f61) rfl Try.func61 rfl (by decide) rfl rfl (by simp)]
  by_cases h0 : x0 = 0
  case neg =>
    have p0 : (x0 != 0) = true := by simp [h0]
    simp -implicitDefEqProofs [h0, p0, loopK_pos, B8vc, B8vn, splice]
  subst h0
  by_cases h1 : x1 = 0
  case neg =>
    have p1 : (x1 != 0) = true := by simp [h1]
    simp -implicitDefEqProofs [h1, p1, loopK_pos, B8vc, B8vn, splice]
  subst h1
  by_cases h2 : x2 = 0
  case neg =>
    have p2 : (x2 != 0) = true := by simp [h2]
    simp -implicitDefEqProofs [h2, p2, loopK_pos, B8vc, B8vn, splice]
  subst h2
  by_cases h3 : x3 = 0
  case neg =>
    have p3 : (x3 != 0) = true := by simp [h3]
    simp -implicitDefEqProofs [h3, p3, loopK_pos, B8vc, B8vn, splice]
  subst h3
  by_cases h4 : x4 = 0
  case neg =>
    have p4 : (x4 != 0) = true := by simp [h4]
    simp -implicitDefEqProofs [h4, p4, loopK_pos, B8vc, B8vn, splice]
  subst h4
  by_cases h5 : x5 = 0
  case neg =>
    have p5 : (x5 != 0) = true := by simp [h5]
    simp -implicitDefEqProofs [h5, p5, loopK_pos, B8vc, B8vn, splice]
  subst h5
  by_cases h6 : x6 = 0
  case neg =>
    have p6 : (x6 != 0) = true := by simp [h6]
    simp -implicitDefEqProofs [h6, p6, loopK_pos, B8vc, B8vn, splice]
  subst h6
  by_cases h7 : x7 = 0
  case neg =>
    have p7 : (x7 != 0) = true := by simp [h7]
    simp -implicitDefEqProofs [h7, p7, loopK_pos, B8vc, B8vn, splice]
  subst h7
  by_cases h8 : x8 = 0
  case neg =>
    have p8 : (x8 != 0) = true := by simp [h8]
    simp -implicitDefEqProofs [h8, p8, loopK_pos, B8vc, B8vn, splice]
  subst h8
  by_cases h9 : x9 = 0
  case neg =>
    have p9 : (x9 != 0) = true := by simp [h9]
    simp -implicitDefEqProofs [h9, p9, loopK_pos, B8vc, B8vn, splice]
  subst h9
  by_cases h10 : x10 = 0
  case neg =>
    have p10 : (x10 != 0) = true := by simp [h10]
    simp -implicitDefEqProofs [h10, p10, loopK_pos, B8vc, B8vn, splice]
  subst h10
  by_cases h11 : x11 = 0
  case neg =>
    have p11 : (x11 != 0) = true := by simp [h11]
    simp -implicitDefEqProofs [h11, p11, loopK_pos, B8vc, B8vn, splice]
  subst h11
  by_cases h12 : x12 = 0
  case neg =>
    have p12 : (x12 != 0) = true := by simp [h12]
    simp -implicitDefEqProofs [h12, p12, loopK_pos, B8vc, B8vn, splice]
  subst h12
  by_cases h13 : x13 = 0
  case neg =>
    have p13 : (x13 != 0) = true := by simp [h13]
    simp -implicitDefEqProofs [h13, p13, loopK_pos, B8vc, B8vn, splice]
  subst h13
  by_cases h14 : x14 = 0
  case neg =>
    have p14 : (x14 != 0) = true := by simp [h14]
    simp -implicitDefEqProofs [h14, p14, loopK_pos, B8vc, B8vn, splice]
  subst h14
  by_cases h15 : x15 = 0
  case neg =>
    have p15 : (x15 != 0) = true := by simp [h15]
    simp -implicitDefEqProofs [h15, p15, loopK_pos, B8vc, B8vn, splice]
  subst h15
  simp -implicitDefEqProofs [loopK_pos, B8vc, B8vn, splice]
def fNZero : Fun
  | [.agg a] => (asB8 a).bind fun S => if S.length = 16 then some (.v (.bool (decide (S = z16))), []) else none
  | _ => none
theorem nzero_pure : Pure Try.prog 61 fNZero := (runF_pure kn_ok follows_mixed dm_ok 100000 1 61).weaken fun args r h => by
  unfold fNZero at h
  split at h
  · rename_i a
    obtain ⟨zs, hz, he⟩ := Option.bind_eq_some_iff.1 h
    clear h
    split at he
    case isFalse => cases he
    rename_i hh
    obtain rfl := asB8_eq hz
    rw [← he]
    exact nzero_run zs hh
  · cases h
theorem nrpack_pure : Pure Try.prog 64 fNPack := (runF_pure knp_ok follows_mixed dm_ok 100000 1 64).weaken fun args r h => by
  unfold fNPack at h
  split at h
  · rename_i a b s rest
    obtain ⟨S, e1, h1⟩ := Option.bind_eq_some_iff.1 h
    obtain ⟨D, e2, h2⟩ := Option.bind_eq_some_iff.1 h1
    obtain ⟨T, e3, h3⟩ := Option.bind_eq_some_iff.1 h2
    clear h h1 h2
    split at h3
    · rename_i mm hr
      obtain ⟨mac, e4, he⟩ := Option.bind_eq_some_iff.1 h3
      clear h3
      split at he
      case isFalse => cases he
      rename_i hh
      obtain ⟨rfl, x2, x3, x4, x6, x7, x8⟩ := hh
      obtain rfl := asB8_eq e1
      obtain rfl := asB8_eq e2
      have e3' := asB8_eq e3
      obtain rfl := asB8_eq e4
      have hrest : rest = B8 S ++ (.v (.bool true) :: B8 mac) := by rw [← e3', ← hr, List.take_append_drop]
      subst hrest
      rw [← he]
      exact nrpack_run S D s mac x3 x2 x4 x7 x6 x8
    · cases h3
  · cases h
noncomputable def KNR : Nat → Option Con
  | 64 => some fNPack
  | 61 => some fNZero
  | _ => none
theorem knr_ok : KOk Try.prog KNR := fun f F h => by
  unfold KNR at h
  split at h
  · cases h; exact ⟨nrpack_pure, _, Try.func64, rfl, by decide⟩
  · cases h; exact ⟨nzero_pure, _, Try.func61, rfl, by decide⟩
  · cases h
section
variable {D : FuncId → Nat → List Nat} {L d px : Nat} {args : List AV} {m : Mem}
theorem cknr_nrpack : pvCall Try.prog KNR D L d px 64 args m = callBy fNPack m px args := pvCall_by rfl
theorem cknr_nzero : pvCall Try.prog KNR D L d px 61 args m = callBy fNZero m px args := pvCall_by rfl
end
theorem eknr_nrpack : KNR 64 = some (.pure fNPack) := rfl
theorem eknr_nzero : KNR 61 = some (.pure fNZero) := rfl
attribute [simp] cknr_nrpack eknr_nrpack cknr_nzero eknr_nzero
set_option maxHeartbeats 32000000 in
theorem nrans_run (cl la nx pr ho : Int) (S D : List Int) (cs : List Int) (cn : Bool) (cc : Option Nat) (ad ro so ov hm : Bool) (T mc own Z : List Int) (n : Nat) (nn : Bool) (cap : Option Nat) (hS : S.length = 16) (hD : D.length = 16) (hT : T.length = 16) (hmc : mc.length = 6) (hown : own.length = 6) (hZ : Z.length = 16 * n) (hn : n ≤ 1000) (bS : bytesB S = true) (bT : bytesB T = true) (bo : bytesB own = true) : runF Try.prog KNR Dm 100000 1 20 [ip6A cl la nx pr ho S D (.sl cn (B8 cs) cs.length cc), ndA ad ro so ov T hm mc, .agg (B8 own), .sl nn (B8 Z) n cap] = some (naV ad S T own Z n) := by
  have t1 : S.take 16 = S := List.take_of_length_le (by omega)
  have t2 : D.take 16 = D := List.take_of_length_le (by omega)
  have t3 : T.take 16 = T := List.take_of_length_le (by omega)
  have t4 : own.take 6 = own := List.take_of_length_le (by omega)
  have t5 : mc.take 6 = mc := List.take_of_length_le (by omega)
  have k33 : ∀ x : AV, (B8 S ++ (B8 D ++ [x])).take 33 = B8 S ++ (B8 D ++ [x]) := fun x => List.take_of_length_le (by simp [hS, hD])
  have k23 : ∀ x : AV, (B8 T ++ x :: B8 mc).take 23 = B8 T ++ x :: B8 mc := fun x => List.take_of_length_le (by simp [hT, hmc])
  have k23o : ∀ x : AV, (B8 T ++ x :: B8 own).take 23 = B8 T ++ x :: B8 own := fun x => List.take_of_length_le (by simp [hT, hown])
  have d23 : ∀ X : List AV, (B8 T ++ X).drop 23 = X.drop 7 := fun X => by rw [show (23 : Nat) = 16 + 7 from rfl, ← List.drop_drop, B8d16 hT]
  have dS : S.drop 16 = [] := List.drop_eq_nil_of_le (by omega)
  have eqS : eqV (S.map (Value.int .u8)) (z16.map (Value.int .u8)) = decide (S = z16) := eqV_ints (hS.trans rfl)
  have pkS := pairOk16 hS (show z16.length = 16 from rfl)
  simp only [z16, List.map_cons, List.map_nil] at eqS pkS
  have bm1 : bytesB ndM1 = true := by decide
  have hm1 : ndM1.length = 16 := rfl
  have hW1 := npW_len (T := T) (D := ndM1) (s := false) (mac := own) hT hm1 hown
  have hW2 := npW_len (T := T) (D := S) (s := true) (mac := own) hT hS hown
  have hndM : [255, 2, 0, 0, 0, 0, 0, 0, 0, 0, 0, 0, 0, 0, 0, 1] = ndM1 := rfl
  unfold runF naV
  rw [pvCall_own (fn := Try.f20) rfl Try.func20 rfl (by decide) rfl rfl (by simp)]
  simp -implicitDefEqProofs [asB8_ndM1, d23, dS, t1, t2, t3, t4, t5, k33, k23, k23o, eqS, pkS, bm1, hm1, hS, hD, hT, hmc, hown, hZ, hn, bS, bT, bo, ip6A, ndA, splice, B8t16 hT, B8d16 hT, B8t33 hT, B8t17 hT, B8d32 hT, B8t32 hT, B8d33 hT, B8d17 hT, B8d34 hT, B8d18 hT, B8t34 hT, B8t18 hT, B8t16 hS, B8d16 hS, B8t33 hS, B8t17 hS, B8d32 hS, B8t32 hS, B8d33 hS, B8d17 hS, B8d34 hS, B8d18 hS, B8t34 hS, B8t18 hS, B8t16 hD, B8d16 hD, B8t33 hD, B8t17 hD, B8d32 hD, B8t32 hD, B8d33 hD, B8d17 hD, B8d34 hD, B8d18 hD, B8t34 hD, B8t18 hD, -B8_append]
  generalize hL : loopK _ _ _ _ _ _ _ _ _ ⟨_, _⟩ = R
  obtain ⟨e, t', m', rfl, hk, hm2, rfl, hQ⟩ := loop_met5 hL [10, 11, 16, 17, 18, 19, 20, 21, 22, 23, 24, 25, 26, 27, 28, 29, 30, 31] []
    (fun j t m => t 11 = .v (.int .i64 (j : Int)) ∧ ∃ b : Bool, t 10 = .v (.bool b) ∧ (0 ≤ ixF Z T n 0 ↔ (b = true ∨ 0 ≤ ixF Z T (n - j) j)))
    (fun e t m => e = .exit 0 ∧ t 10 = .v (.bool (decide (0 ≤ ixF Z T n 0)))) n (by omega) ⟨by simp, false, by simp, by simp⟩
    (fun j t m hj hk hm2 ⟨ec, b, eb, hI⟩ => by
      have e3 := hk 3 (by decide)
      have e5 := hk 5 (by decide)
      have em5 := hm2 5 (by decide)
      simp at e3 e5 em5
      by_cases hq : j = n
      · left
        refine ⟨.exit 0, ?t0p, m, by simp, ?a0p, ?b0p, hm2, rfl, ?c0p⟩
        case a0p =>
          simp -implicitDefEqProofs [ec, e3, e5, em5, hq]
          exact rfl
        case b0p =>
          repeat' refine Kept.upd ?_ (by decide) _
          exact hk
        case c0p =>
          have h0 : ixF Z T (n - j) j = -1 := by rw [hq, Nat.sub_self]; rfl
          rw [h0] at hI
          have hb : decide (0 ≤ ixF Z T n 0) = b := by
            cases b with
            | true => simp [hI]
            | false => simp at hI ⊢; omega
          simp [eb, hb]
      right
      have hjn : j < n := by omega
      have j1 : (j : Int) < (n : Int) := by omega
      have j2 : j * 16 + 16 ≤ Z.length := by omega
      have j3 : 16 ≤ Z.length - j * 16 := by omega
      have j4 : ((Z.drop (j * 16)).take 16).length = 16 := by simp; omega
      have j5 := pairOk16 j4 hT
      have j6 := eqV_ints (j4.trans hT.symm)
      have j7 : IntKind.i64.wrap ((j : Int) + 1) = ((j + 1 : Nat) : Int) := by rw [wrap64_id (by omega) (by omega)]; omega
      simp only [List.map_take, List.map_drop] at j5 j6
      cases b with
      | true =>
        refine ⟨hjn, ?t1p, ?m1p, ?a1p, ?b1p, ?c1p, ?d1p⟩
        case a1p =>
          simp -implicitDefEqProofs [ec, eb, e3, e5, em5, hjn, j1, j2, j3, j7, splice]
          constructor
          · exact rfl
          · exact rfl
        case b1p =>
          repeat' refine Kept.upd ?_ (by decide) _
          exact hk
        case c1p =>
          repeat' refine KeptM.upd ?_ (by decide) _
          exact hm2
        case d1p => exact ⟨by simp, true, by simp, by simp [hI]⟩
      | false =>
        by_cases hh : (Z.drop (j * 16)).take 16 = T
        · have hv := ixF_pos (n := n) hjn hh
          refine ⟨hjn, ?t2p, ?m2p, ?a2p, ?b2p, ?c2p, ?d2p⟩
          case a2p =>
            simp -implicitDefEqProofs [ec, eb, e3, e5, em5, hT, t3, k23, hjn, j1, j2, j3, j7, hh, pairOk16 hT hT, eqV_same T, B8t16 hT, B8d16 hT, splice]
            constructor
            · exact rfl
            · exact rfl
          case b2p =>
            repeat' refine Kept.upd ?_ (by decide) _
            exact hk
          case c2p =>
            repeat' refine KeptM.upd ?_ (by decide) _
            exact hm2
          case d2p => exact ⟨by simp, true, by simp, by simp [hI, hv]⟩
        · have hv := ixF_neg (n := n) hjn hh
          refine ⟨hjn, ?t4p, ?m4p, ?a4p, ?b4p, ?c4p, ?d4p⟩
          case a4p =>
            simp -implicitDefEqProofs [ec, eb, e3, e5, em5, hT, t3, k23, hjn, j1, j2, j3, j4, j5, j6, j7, hh, B8t16 hT, B8d16 hT, splice]
            constructor
            · exact rfl
            · exact rfl
          case b4p =>
            repeat' refine Kept.upd ?_ (by decide) _
            exact hk
          case c4p =>
            repeat' refine KeptM.upd ?_ (by decide) _
            exact hm2
          case d4p => exact ⟨by simp, false, by simp, by rw [hI, hv]⟩)
  have f4 := hk 4 (by decide)
  have f5 := hk 5 (by decide)
  have f6 := hk 6 (by decide)
  have fm4 := hm2 4 (by decide)
  have fm5 := hm2 5 (by decide)
  have fm6 := hm2 6 (by decide)
  simp at f4 f5 f6 fm4 fm5 fm6
  cases ad with
  | true => simp -implicitDefEqProofs [hQ, f4, f5, f6, fm4, fm5, fm6, nF, asB8_ndM1, d23, dS, t1, t2, t3, t4, t5, k33, k23, k23o, eqS, pkS, bm1, hm1, hS, hD, hT, hmc, hown, hZ, hn, bS, bT, bo, ip6A, ndA, splice, B8t16 hT, B8d16 hT, B8t33 hT, B8t17 hT, B8d32 hT, B8t32 hT, B8d33 hT, B8d17 hT, B8d34 hT, B8d18 hT, B8t34 hT, B8t18 hT, B8t16 hS, B8d16 hS, B8t33 hS, B8t17 hS, B8d32 hS, B8t32 hS, B8d33 hS, B8d17 hS, B8d34 hS, B8d18 hS, B8t34 hS, B8t18 hS, B8t16 hD, B8d16 hD, B8t33 hD, B8t17 hD, B8d32 hD, B8t32 hD, B8d33 hD, B8d17 hD, B8d34 hD, B8d18 hD, B8t34 hD, B8t18 hD, -B8_append]
  | false =>
    by_cases hx : 0 ≤ ixF Z T n 0
    case neg => simp -implicitDefEqProofs [hQ, f4, f5, f6, fm4, fm5, fm6, hx, nF, asB8_ndM1, d23, dS, t1, t2, t3, t4, t5, k33, k23, k23o, eqS, pkS, bm1, hm1, hS, hD, hT, hmc, hown, hZ, hn, bS, bT, bo, ip6A, ndA, splice, B8t16 hT, B8d16 hT, B8t33 hT, B8t17 hT, B8d32 hT, B8t32 hT, B8d33 hT, B8d17 hT, B8d34 hT, B8d18 hT, B8t34 hT, B8t18 hT, B8t16 hS, B8d16 hS, B8t33 hS, B8t17 hS, B8d32 hS, B8t32 hS, B8d33 hS, B8d17 hS, B8d34 hS, B8d18 hS, B8t34 hS, B8t18 hS, B8t16 hD, B8d16 hD, B8t33 hD, B8t17 hD, B8d32 hD, B8t32 hD, B8d33 hD, B8d17 hD, B8d34 hD, B8d18 hD, B8t34 hD, B8t18 hD, -B8_append]
    by_cases hz0 : S = z16
    · subst hz0
      have bz : B8 z16 = [AV.v (.int .u8 0), AV.v (.int .u8 0), AV.v (.int .u8 0), AV.v (.int .u8 0), AV.v (.int .u8 0), AV.v (.int .u8 0), AV.v (.int .u8 0), AV.v (.int .u8 0), AV.v (.int .u8 0), AV.v (.int .u8 0), AV.v (.int .u8 0), AV.v (.int .u8 0), AV.v (.int .u8 0), AV.v (.int .u8 0), AV.v (.int .u8 0), AV.v (.int .u8 0)] := rfl
      have az : asB8 [AV.v (.int .u8 0), AV.v (.int .u8 0), AV.v (.int .u8 0), AV.v (.int .u8 0), AV.v (.int .u8 0), AV.v (.int .u8 0), AV.v (.int .u8 0), AV.v (.int .u8 0), AV.v (.int .u8 0), AV.v (.int .u8 0), AV.v (.int .u8 0), AV.v (.int .u8 0), AV.v (.int .u8 0), AV.v (.int .u8 0), AV.v (.int .u8 0), AV.v (.int .u8 0)] = some z16 := rfl
      have hd : naD z16 = ndM1 := by unfold naD; rw [if_pos rfl]
      by_cases h : gb T 0 = 255
      · have hv : npV T ndM1 false own = ewE 5 := by unfold npV; rw [if_pos h]
        simp -implicitDefEqProofs [hQ, f4, f5, f6, fm4, fm5, fm6, bz, az, h, hv, hd, hx, nF, ewE, fNZero, fNPack, asB8_ndM1, d23, dS, t1, t2, t3, t4, t5, k33, k23, k23o, eqS, pkS, bm1, hm1, hS, hD, hT, hmc, hown, hZ, hn, bS, bT, bo, ip6A, ndA, splice, B8t16 hT, B8d16 hT, B8t33 hT, B8t17 hT, B8d32 hT, B8t32 hT, B8d33 hT, B8d17 hT, B8d34 hT, B8d18 hT, B8t34 hT, B8t18 hT, B8t16 hS, B8d16 hS, B8t33 hS, B8t17 hS, B8d32 hS, B8t32 hS, B8d33 hS, B8d17 hS, B8d34 hS, B8d18 hS, B8t34 hS, B8t18 hS, B8t16 hD, B8d16 hD, B8t33 hD, B8t17 hD, B8d32 hD, B8t32 hD, B8d33 hD, B8d17 hD, B8d34 hD, B8d18 hD, B8t34 hD, B8t18 hD, -B8_append]
      · have hv : npV T ndM1 false own = ewC (npW T ndM1 false own) := by unfold npV; rw [if_neg h]
        rw [hd]
        simp -implicitDefEqProofs [hQ, f4, f5, f6, fm4, fm5, fm6, bz, az, h, hv, hd, hx, hW1, nF, ewC, fNZero, fNPack, asB8_ndM1, d23, dS, t1, t2, t3, t4, t5, k33, k23, k23o, eqS, pkS, bm1, hm1, hS, hD, hT, hmc, hown, hZ, hn, bS, bT, bo, ip6A, ndA, splice, B8t16 hT, B8d16 hT, B8t33 hT, B8t17 hT, B8d32 hT, B8t32 hT, B8d33 hT, B8d17 hT, B8d34 hT, B8d18 hT, B8t34 hT, B8t18 hT, B8t16 hS, B8d16 hS, B8t33 hS, B8t17 hS, B8d32 hS, B8t32 hS, B8d33 hS, B8d17 hS, B8d34 hS, B8d18 hS, B8t34 hS, B8t18 hS, B8t16 hD, B8d16 hD, B8t33 hD, B8t17 hD, B8d32 hD, B8t32 hD, B8d33 hD, B8d17 hD, B8d34 hD, B8d18 hD, B8t34 hD, B8t18 hD, -B8_append]
    · have hz1 : (S = z16) = False := by simp only [hz0]
      have hzl : (S = [0, 0, 0, 0, 0, 0, 0, 0, 0, 0, 0, 0, 0, 0, 0, 0]) = False := hz1
      have hd : naD S = S := by unfold naD; rw [if_neg hz0]
      by_cases h : gb T 0 = 255
      · have hv : npV T S true own = ewE 5 := by unfold npV; rw [if_pos h]
        simp -implicitDefEqProofs [hQ, f4, f5, f6, fm4, fm5, fm6, h, hv, hd, hx, hz1, hzl, nF, ewE, fNZero, fNPack, asB8_ndM1, d23, dS, t1, t2, t3, t4, t5, k33, k23, k23o, eqS, pkS, bm1, hm1, hS, hD, hT, hmc, hown, hZ, hn, bS, bT, bo, ip6A, ndA, splice, B8t16 hT, B8d16 hT, B8t33 hT, B8t17 hT, B8d32 hT, B8t32 hT, B8d33 hT, B8d17 hT, B8d34 hT, B8d18 hT, B8t34 hT, B8t18 hT, B8t16 hS, B8d16 hS, B8t33 hS, B8t17 hS, B8d32 hS, B8t32 hS, B8d33 hS, B8d17 hS, B8d34 hS, B8d18 hS, B8t34 hS, B8t18 hS, B8t16 hD, B8d16 hD, B8t33 hD, B8t17 hD, B8d32 hD, B8t32 hD, B8d33 hD, B8d17 hD, B8d34 hD, B8d18 hD, B8t34 hD, B8t18 hD, -B8_append]
      · have hv : npV T S true own = ewC (npW T S true own) := by unfold npV; rw [if_neg h]
        rw [hd]
        simp -implicitDefEqProofs [hQ, f4, f5, f6, fm4, fm5, fm6, h, hv, hd, hx, hz1, hzl, hW2, nF, ewC, fNZero, fNPack, asB8_ndM1, d23, dS, t1, t2, t3, t4, t5, k33, k23, k23o, eqS, pkS, bm1, hm1, hS, hD, hT, hmc, hown, hZ, hn, bS, bT, bo, ip6A, ndA, splice, B8t16 hT, B8d16 hT, B8t33 hT, B8t17 hT, B8d32 hT, B8t32 hT, B8d33 hT, B8d17 hT, B8d34 hT, B8d18 hT, B8t34 hT, B8t18 hT, B8t16 hS, B8d16 hS, B8t33 hS, B8t17 hS, B8d32 hS, B8t32 hS, B8d33 hS, B8d17 hS, B8d34 hS, B8d18 hS, B8t34 hS, B8t18 hS, B8t16 hD, B8d16 hD, B8t33 hD, B8t17 hD, B8d32 hD, B8t32 hD, B8d33 hD, B8d17 hD, B8d34 hD, B8d18 hD, B8t34 hD, B8t18 hD, -B8_append]
end Go.Proofs.Ytmdafjegddnecaa

/- The law NdpAnswers: its run, what comes in, its walk. -/
namespace Go.Proofs.Ytmdafjegddnecaa
open Go.ChangeShapes Go.WideShapes Go.ChangeAt Go.RowKit Go.Wb Go.Pm
set_option linter.unusedVariables false
set_option linter.unusedSimpArgs false
set_option maxRecDepth 1000000
def fNAns : Fun
  | [h, .agg (.v (.bool ad) :: .v (.bool ro) :: .v (.bool so) :: .v (.bool ov) :: rest), .agg o, .sl nn c n cap] => (asI6 h).bind fun r => (asB8 (rest.take 16)).bind fun T => match rest.drop 16 with
    | .v (.bool hm) :: mm => (asB8 mm).bind fun mc => (asB8 o).bind fun own => (asB8 c).bind fun Z => if r.2.2.2.2.2.1.length = 16 ∧ r.2.2.2.2.2.2.1.length = 16 ∧ T.length = 16 ∧ mc.length = 6 ∧ own.length = 6 ∧ Z.length = 16 * n ∧ n ≤ 1000 ∧ bytesB r.2.2.2.2.2.1 = true ∧ bytesB T = true ∧ bytesB own = true then some (naV ad r.2.2.2.2.2.1 T own Z n) else none
    | _ => none
  | _ => none
theorem nans_pure : Pure Try.prog 19 fNAns := (runF_pure kna_ok follows_mixed dm_ok 100000 1 19).weaken fun args r0 h => by
  unfold fNAns at h
  split at h
  · rename_i hd ad ro so ov rest o nn c n cap
    obtain ⟨⟨cl, la, nx, pr, ho, S, D, cs⟩, e0, h1⟩ := Option.bind_eq_some_iff.1 h
    obtain ⟨T, e1, h2⟩ := Option.bind_eq_some_iff.1 h1
    clear h h1
    split at h2
    · rename_i hm mm hr
      obtain ⟨mc, e2, h3⟩ := Option.bind_eq_some_iff.1 h2
      obtain ⟨own, e3, h4⟩ := Option.bind_eq_some_iff.1 h3
      obtain ⟨Z, e4, he⟩ := Option.bind_eq_some_iff.1 h4
      clear h2 h3 h4
      split at he
      case isFalse => cases he
      rename_i hh
      simp only at hh he
      obtain ⟨x1, x2, x3, x4, x5, x6, x7, x8, x9, x10⟩ := hh
      obtain ⟨cn, cc, rfl⟩ := asI6_eq e0
      have e1' := asB8_eq e1
      obtain rfl := asB8_eq e2
      obtain rfl := asB8_eq e3
      obtain rfl := asB8_eq e4
      have hrest : rest = B8 T ++ (.v (.bool hm) :: B8 mc) := by rw [← e1', ← hr, List.take_append_drop]
      subst hrest
      rw [← he]
      exact nans_run cl la nx pr ho S D cs cn cc ad ro so ov hm T mc own Z n nn cap x1 x2 x3 x4 x5 x6 x7 x8 x9 x10
    · cases h2
  · cases h
theorem nrans_pure : Pure Try.prog 20 fNAns := (runF_pure knr_ok follows_mixed dm_ok 100000 1 20).weaken fun args r0 h => by
  unfold fNAns at h
  split at h
  · rename_i hd ad ro so ov rest o nn c n cap
    obtain ⟨⟨cl, la, nx, pr, ho, S, D, cs⟩, e0, h1⟩ := Option.bind_eq_some_iff.1 h
    obtain ⟨T, e1, h2⟩ := Option.bind_eq_some_iff.1 h1
    clear h h1
    split at h2
    · rename_i hm mm hr
      obtain ⟨mc, e2, h3⟩ := Option.bind_eq_some_iff.1 h2
      obtain ⟨own, e3, h4⟩ := Option.bind_eq_some_iff.1 h3
      obtain ⟨Z, e4, he⟩ := Option.bind_eq_some_iff.1 h4
      clear h2 h3 h4
      split at he
      case isFalse => cases he
      rename_i hh
      simp only at hh he
      obtain ⟨x1, x2, x3, x4, x5, x6, x7, x8, x9, x10⟩ := hh
      obtain ⟨cn, cc, rfl⟩ := asI6_eq e0
      have e1' := asB8_eq e1
      obtain rfl := asB8_eq e2
      obtain rfl := asB8_eq e3
      obtain rfl := asB8_eq e4
      have hrest : rest = B8 T ++ (.v (.bool hm) :: B8 mc) := by rw [← e1', ← hr, List.take_append_drop]
      subst hrest
      rw [← he]
      exact nrans_run cl la nx pr ho S D cs cn cc ad ro so ov hm T mc own Z n nn cap x1 x2 x3 x4 x5 x6 x7 x8 x9 x10
    · cases h2
  · cases h
theorem eqV_ci2 (k : IntKind) (a : Int) (x y : List Value) : eqV (.int k a :: x) (.int k a :: y) = eqV x y := by
  show (decide _ && eqV x y) = _
  simp
theorem eqV_n2 : eqV [] [] = true := rfl
set_option maxHeartbeats 16000000 in
theorem known35_run : runF Try.prog KN Dm 100000 2 15 [] = some (.v (.bool true), []) := by
  have hmt := fun (px : Nat) (args : List AV) (m : Mem) (hl : args.length ≤ Try.f54.ntmps) => pvCall_own (P := Try.prog) (K := KN) (D := Dm) (L := 100000) (d := 0) (px := px) (args := args) (m := m) (f := 54) (fn := Try.f54) rfl Try.func54 rfl (by decide) rfl rfl hl
  unfold runF
  rw [pvCall_own (fn := Try.f15) rfl Try.func15 rfl (by decide) rfl rfl (by simp)]
  simp -implicitDefEqProofs [hmt, eqV_ci2, eqV_n2, splice, List.replicate_succ, Nat.testBit_eq_decide_div_mod_eq]
def fKnown35 : Fun
  | [] => some (.v (.bool true), [])
  | _ => none
theorem known35_pure : Pure Try.prog 15 fKnown35 := (runF_pure kn_ok follows_mixed dm_ok 100000 2 15).weaken fun args r h => by
  unfold fKnown35 at h
  split at h
  · rw [← h]; exact known35_run
  · cases h
noncomputable def KNL : Nat → Option Con
  | 19 => some fNAns
  | 20 => some fNAns
  | 15 => some fKnown35
  | _ => none
theorem knl_ok : KOk Try.prog KNL := fun f F h => by
  unfold KNL at h
  split at h
  · cases h; exact ⟨nans_pure, _, Try.func19, rfl, by decide⟩
  · cases h; exact ⟨nrans_pure, _, Try.func20, rfl, by decide⟩
  · cases h; exact ⟨known35_pure, _, Try.func15, rfl, by decide⟩
  · cases h
section
variable {D : FuncId → Nat → List Nat} {L d px : Nat} {args : List AV} {m : Mem}
theorem cknl_nans : pvCall Try.prog KNL D L d px 19 args m = callBy fNAns m px args := pvCall_by rfl
theorem cknl_nrans : pvCall Try.prog KNL D L d px 20 args m = callBy fNAns m px args := pvCall_by rfl
theorem cknl_known : pvCall Try.prog KNL D L d px 15 args m = callBy fKnown35 m px args := pvCall_by rfl
end
theorem eknl_nans : KNL 19 = some (.pure fNAns) := rfl
theorem eknl_nrans : KNL 20 = some (.pure fNAns) := rfl
theorem eknl_known : KNL 15 = some (.pure fKnown35) := rfl
attribute [simp] cknl_nans eknl_nans cknl_nrans eknl_nrans cknl_known eknl_known
set_option maxHeartbeats 8000000 in
theorem nlaw_long (cl la nx pr ho : Int) (S D cs : List Int) (cn : Bool) (cc : Option Nat) (ad ro so ov hm : Bool) (T mc own Z : List Int) (n : Nat) (nn : Bool) (cap : Option Nat) (hS : S.length = 16) (hD : D.length = 16) (hT : T.length = 16) (hmc : mc.length = 6) (hown : own.length = 6) (hb : 40 < n) (hn9 : n ≤ 9223372036854775807) : (pvCall Try.prog KNL Dm 100000 1 0 5 [ip6A cl la nx pr ho S D (.sl cn (B8 cs) cs.length cc), ndA ad ro so ov T hm mc, .agg (B8 own), .sl nn (B8 Z) n cap] (fun _ => none)).map (·.1) = some (.v (.bool true)) := by
  have u1 : (40 : Int) < (n : Int) := by omega
  have t1 : S.take 16 = S := List.take_of_length_le (by omega)
  have t2 : D.take 16 = D := List.take_of_length_le (by omega)
  have t3 : T.take 16 = T := List.take_of_length_le (by omega)
  have t4 : own.take 6 = own := List.take_of_length_le (by omega)
  have t5 : mc.take 6 = mc := List.take_of_length_le (by omega)
  have k33 : ∀ x : AV, (B8 S ++ (B8 D ++ [x])).take 33 = B8 S ++ (B8 D ++ [x]) := fun x => List.take_of_length_le (by simp [hS, hD])
  have k23 : ∀ x : AV, (B8 T ++ x :: B8 mc).take 23 = B8 T ++ x :: B8 mc := fun x => List.take_of_length_le (by simp [hT, hmc])
  have a6 := fun (k : Bool) (q : Option Nat) => asI6_at (cl := cl) (la := la) (nx := nx) (pr := pr) (ho := ho) (cs := cs) (len := cs.length) hS hD rfl k q
  rw [pvCall_own (fn := Try.f5) rfl Try.func5 rfl (by decide) rfl rfl (by simp)]
  simp -implicitDefEqProofs [u1, t1, t2, t3, t4, t5, k33, k23, a6, hS, hD, hT, hmc, hown, ip6A, ndA, fKnown35, splice, Nat.testBit_eq_decide_div_mod_eq, B8t16 hT, B8d16 hT, B8t33 hT, B8t17 hT, B8d32 hT, B8t32 hT, B8d33 hT, B8d17 hT, B8d34 hT, B8d18 hT, B8t34 hT, B8t18 hT, B8t16 hS, B8d16 hS, B8t33 hS, B8t17 hS, B8d32 hS, B8t32 hS, B8d33 hS, B8d17 hS, B8d34 hS, B8d18 hS, B8t34 hS, B8t18 hS, B8t16 hD, B8d16 hD, B8t33 hD, B8t17 hD, B8d32 hD, B8t32 hD, B8d33 hD, B8d17 hD, B8d34 hD, B8d18 hD, B8t34 hD, B8t18 hD, -B8_append]
theorem naV_form (ad : Bool) (S T own Z : List Int) (n : Nat) (hT : T.length = 16) (hS : S.length = 16) (hown : own.length = 6) : naV ad S T own Z n = nF ∨ ∃ W, W.length ≤ 5000 ∧ naV ad S T own Z n = (.tup [.own 0 0 0 W.length 1 (.whole 5), .v (.bool true)], [B8 W]) := by
  unfold naV
  split
  · exact .inl rfl
  split
  · exact .inl rfl
  · refine .inr ⟨_, ?_, rfl⟩
    rw [npW_len hT (by unfold naD; split; rfl; exact hS) hown]
    decide
set_option maxHeartbeats 16000000 in
theorem nlaw_short (cl la nx pr ho : Int) (S D cs : List Int) (cn : Bool) (cc : Option Nat) (ad ro so ov hm : Bool) (T mc own Z : List Int) (n : Nat) (nn : Bool) (cap : Option Nat) (hS : S.length = 16) (hD : D.length = 16) (hT : T.length = 16) (hmc : mc.length = 6) (hown : own.length = 6) (hZ : Z.length = 16 * n) (bS : bytesB S = true) (bT : bytesB T = true) (bo : bytesB own = true) (hn : n ≤ 40) : (pvCall Try.prog KNL Dm 100000 1 0 5 [ip6A cl la nx pr ho S D (.sl cn (B8 cs) cs.length cc), ndA ad ro so ov T hm mc, .agg (B8 own), .sl nn (B8 Z) n cap] (fun _ => none)).map (·.1) = some (.v (.bool true)) := by
  have u1 : ¬ (40 : Int) < (n : Int) := by omega
  have hn1 : n ≤ 1000 := by omega
  have t1 : S.take 16 = S := List.take_of_length_le (by omega)
  have t2 : D.take 16 = D := List.take_of_length_le (by omega)
  have t3 : T.take 16 = T := List.take_of_length_le (by omega)
  have t4 : own.take 6 = own := List.take_of_length_le (by omega)
  have t5 : mc.take 6 = mc := List.take_of_length_le (by omega)
  have k33 : ∀ x : AV, (B8 S ++ (B8 D ++ [x])).take 33 = B8 S ++ (B8 D ++ [x]) := fun x => List.take_of_length_le (by simp [hS, hD])
  have k23 : ∀ x : AV, (B8 T ++ x :: B8 mc).take 23 = B8 T ++ x :: B8 mc := fun x => List.take_of_length_le (by simp [hT, hmc])
  have a6 := fun (k : Bool) (q : Option Nat) => asI6_at (cl := cl) (la := la) (nx := nx) (pr := pr) (ho := ho) (cs := cs) (len := cs.length) hS hD rfl k q
  rw [pvCall_own (fn := Try.f5) rfl Try.func5 rfl (by decide) rfl rfl (by simp)]
  rcases naV_form ad S T own Z n hT hS hown with hV | ⟨W, hWl, hV⟩
  · simp -implicitDefEqProofs [u1, hn1, hV, hZ, bS, bT, bo, nF, fNAns, asB8_nil'', t1, t2, t3, t4, t5, k33, k23, a6, hS, hD, hT, hmc, hown, ip6A, ndA, fKnown35, splice, Nat.testBit_eq_decide_div_mod_eq, B8t16 hT, B8d16 hT, B8t33 hT, B8t17 hT, B8d32 hT, B8t32 hT, B8d33 hT, B8d17 hT, B8d34 hT, B8d18 hT, B8t34 hT, B8t18 hT, B8t16 hS, B8d16 hS, B8t33 hS, B8t17 hS, B8d32 hS, B8t32 hS, B8d33 hS, B8d17 hS, B8d34 hS, B8d18 hS, B8t34 hS, B8t18 hS, B8t16 hD, B8d16 hD, B8t33 hD, B8t17 hD, B8d32 hD, B8t32 hD, B8d33 hD, B8d17 hD, B8d34 hD, B8d18 hD, B8t34 hD, B8t18 hD, -B8_append]
  · have w1 : W.length ≤ 9223372036854775807 := by omega
    have w2 : W.take W.length = W := List.take_length
    simp -implicitDefEqProofs [u1, hn1, hV, hZ, bS, bT, bo, w1, w2, fNAns, t1, t2, t3, t4, t5, k33, k23, a6, hS, hD, hT, hmc, hown, ip6A, ndA, fKnown35, splice, Nat.testBit_eq_decide_div_mod_eq, B8t16 hT, B8d16 hT, B8t33 hT, B8t17 hT, B8d32 hT, B8t32 hT, B8d33 hT, B8d17 hT, B8d34 hT, B8d18 hT, B8t34 hT, B8t18 hT, B8t16 hS, B8d16 hS, B8t33 hS, B8t17 hS, B8d32 hS, B8t32 hS, B8d33 hS, B8d17 hS, B8d34 hS, B8d18 hS, B8t34 hS, B8t18 hS, B8t16 hD, B8d16 hD, B8t33 hD, B8t17 hD, B8d32 hD, B8t32 hD, B8d33 hD, B8d17 hD, B8d34 hD, B8d18 hD, B8t34 hD, B8t18 hD, -B8_append]
def InA6 (v : Value) : Prop := InAr 6 v
theorem flat28 : flat Try.prog 4 28 = some (List.replicate 6 5) := by kernel_rfl
set_option maxRecDepth 1000000 in
theorem openT28 {H : Type} {enc : TypeId × Value → H} {w : World} {base b0 : Nat} {spare : Nat → Bool} {held : Bool} {r : Reach} {v : Value} {d : DataW H} {p : List MemPlace} (hv : Value.okWide Try.prog w r b0 28 v) (h : DataW.Trod enc Try.prog w base spare held 28 v d p) : InAr 6 v := by
  obtain ⟨cs, rfl, hl⟩ := open_flat flat28 (agg_array Try.underlying28 hv) h
  obtain ⟨ss, us, hn, rfl, hw, hl⟩ := leaves_ints Try.underlying5 6 (ts := []) (by simpa using hl)
  obtain rfl := Wb.leaves_nil hl
  exact ⟨ss, by simp [ar], hn, fun x hx => bounds_u8 (hw x hx)⟩
def vN (ad ro so ov : Bool) (T : List Int) (hm : Bool) (mc : List Int) : List Value := .bool ad :: .bool ro :: .bool so :: .bool ov :: (T.map (Value.int .u8) ++ (.bool hm :: mc.map (Value.int .u8)))
def InNdp (v : Value) : Prop := ∃ ad ro so ov T hm mc, v = .agg (vN ad ro so ov T hm mc).toArray ∧ T.length = 16 ∧ mc.length = 6 ∧ bytesB T = true ∧ bytesB mc = true
theorem flat30 : flat Try.prog 4 30 = some (4 :: 4 :: 4 :: 4 :: (List.replicate 16 5 ++ (4 :: List.replicate 6 5))) := by kernel_rfl
set_option maxRecDepth 1000000 in
theorem openT30 {H : Type} {enc : TypeId × Value → H} {w : World} {base b0 : Nat} {spare : Nat → Bool} {held : Bool} {r : Reach} {v : Value} {d : DataW H} {p : List MemPlace} (hv : Value.okWide Try.prog w r b0 30 v) (h : DataW.Trod enc Try.prog w base spare held 30 v d p) : InNdp v := by
  obtain ⟨cs, rfl, hl⟩ := open_flat flat30 (agg_struct Try.underlying30 hv) h
  obtain ⟨ad, v0, rfl, hl1⟩ := Wb.leaves_bool Try.underlying4 hl
  obtain ⟨ro, v1, rfl, hl2⟩ := Wb.leaves_bool Try.underlying4 hl1
  obtain ⟨so, v2, rfl, hl3⟩ := Wb.leaves_bool Try.underlying4 hl2
  obtain ⟨ov, v3, rfl, hl4⟩ := Wb.leaves_bool Try.underlying4 hl3
  obtain ⟨T, us, hn, rfl, hw, hl5⟩ := leaves_ints Try.underlying5 16 hl4
  obtain ⟨hm, v5, rfl, hl6⟩ := Wb.leaves_bool Try.underlying4 hl5
  obtain ⟨mc, us2, hn2, rfl, hw2, hl7⟩ := leaves_ints Try.underlying5 6 (ts := []) (by simpa using hl6)
  obtain rfl := Wb.leaves_nil hl7
  exact ⟨ad, ro, so, ov, T, hm, mc, by simp [vN], hn, hn2, bytesB_iff.2 fun x hx => bounds_u8 (hw x hx), bytesB_iff.2 fun x hx => bounds_u8 (hw2 x hx)⟩
theorem rel_ndp {w : World} {ad ro so ov hm : Bool} {T mc : List Int} : Rel (noneAt w) (ndA ad ro so ov T hm mc) (.agg (vN ad ro so ov T hm mc).toArray) := by
  refine .mkAgg ?_
  show RelL _ _ (vN ad ro so ov T hm mc)
  exact .cons .v (.cons .v (.cons .v (.cons .v ((relL_ints _ T).append (.cons .v (relL_ints _ mc))))))
/-- Addresses that came in. -/
def In16 (w : World) (v : Value) : Prop := ∃ a len cap, ∃ Z : List Int, v = .slice a len cap ∧ Z.length = 16 * len ∧ len ≤ cap ∧ cap ≤ maxLen ∧ (a = none → cap = 0) ∧ (len ≠ 0 → ∃ b off, a = some ⟨b, off, none⟩ ∧ b < w.heap.size ∧ ∀ i, i < 16 * len → w.cell? ⟨b, off + i, none⟩ = some (.int .u8 (Z.getD i 0))) ∧ ∀ x ∈ Z, 0 ≤ x ∧ x ≤ 255
theorem flat16 : flat Try.prog 4 23 = some (List.replicate 16 5) := by kernel_rfl
theorem cells16 : Try.prog.cellsOf 23 = 16 := by kernel_rfl
set_option maxRecDepth 1000000 in
theorem openT39 {H : Type} {enc : TypeId × Value → H} {w : World} {base b0 : Nat} {spare : Nat → Bool} {held : Bool} {r : Reach} {v : Value} {d : DataW H} {p : List MemPlace} (hv : Value.okWide Try.prog w r b0 39 v) (h : DataW.Trod enc Try.prog w base spare held 39 v d p) : In16 w v := by
  obtain ⟨a, len, cap, rfl⟩ := okWide_slice Try.underlying39 hv
  obtain ⟨fuel, hf⟩ := h
  rcases DataW.trod_slice Try.underlying39 hf with ⟨hcs, _⟩ | ⟨x, l, c, elems, rest, n, _, hcs, _, _, hl, hm, hel, hE, _⟩
  · simp [Value.cells] at hcs
    obtain ⟨rfl, rfl, rfl⟩ := hcs
    exact ⟨none, 0, 0, [], rfl, rfl, Nat.le_refl _, by simp [maxLen], fun _ => rfl, fun h => absurd rfl h, by simp⟩
  · simp [Value.cells] at hcs
    obtain ⟨rfl, rfl, rfl⟩ := hcs
    rw [cells16] at hE
    have key : ∀ i, i < len → ∃ ss : List Int, ss.length = 16 ∧ (∀ z ∈ ss, 0 ≤ z ∧ z ≤ 255) ∧ w.cells? base (x.add (i * 16)) 16 = some (ss.map (Value.int .u8)) := by
      intro i hi
      have h1 := hE i hi
      rw [List.getElem?_eq_getElem (by omega)] at h1
      obtain ⟨cs, h2, h3⟩ := Option.bind_eq_some_iff.1 h1
      have h4 := trod_leaves 4 n 23 cs _ _ h3 flat16
      obtain ⟨ss, vs, hs, rfl, hw, h5⟩ := leaves_ints Try.underlying5 16 (ts := []) (by simpa using h4)
      obtain rfl := Wb.leaves_nil h5
      exact ⟨ss, hs, fun z hz => bounds_u8 (hw z hz), by rw [h2, List.append_nil]⟩
    by_cases h0 : len = 0
    · subst h0
      exact ⟨some x, 0, cap, [], rfl, rfl, hl, hm, (fun h => by cases h), fun h => absurd rfl h, by simp⟩
    · obtain ⟨s0, _, _, c0⟩ := key 0 (by omega)
      obtain ⟨b, off, rfl, hb, _⟩ := elem_cells c0 (by omega) c0
      have cell : ∀ k, k < 16 * len → ∃ z : Int, (0 ≤ z ∧ z ≤ 255) ∧ w.cell? ⟨b, off + k, none⟩ = some (.int .u8 z) := by
        intro k hk
        obtain ⟨ss, hs, hz, hc⟩ := key (k / 16) (by omega)
        obtain ⟨b', off', e, _, _, hcell⟩ := elem_cells c0 (by omega) hc
        cases e
        have h1 := hcell (k % 16) (by omega)
        rw [show off + k / 16 * 16 + k % 16 = off + k by omega] at h1
        have hlt : k % 16 < ss.length := by omega
        rw [List.getElem?_map, List.getElem?_eq_getElem hlt] at h1
        exact ⟨_, hz _ (List.getElem_mem hlt), h1⟩
      let g : Nat → Int := fun k => match w.cell? ⟨b, off + k, none⟩ with | some (.int .u8 z) => z | _ => 0
      have hg : ∀ k, k < 16 * len → (0 ≤ g k ∧ g k ≤ 255) ∧ w.cell? ⟨b, off + k, none⟩ = some (.int .u8 (g k)) := by
        intro k hk
        obtain ⟨z, hz, hc⟩ := cell k hk
        have e : g k = z := by show (match w.cell? ⟨b, off + k, none⟩ with | some (.int .u8 z) => z | _ => 0) = z; rw [hc]
        rw [e]; exact ⟨hz, hc⟩
      refine ⟨some ⟨b, off, none⟩, len, cap, (List.range (16 * len)).map g, rfl, by simp, hl, hm, (fun h => by cases h), fun _ => ⟨b, off, rfl, hb, fun i hi => ?_⟩, fun z hz => ?_⟩
      · rw [List.getD_eq_getElem?_getD, List.getElem?_map, List.getElem?_range hi]
        exact (hg i hi).2
      · obtain ⟨k, hk, rfl⟩ := List.mem_map.1 hz
        exact (hg k (List.mem_range.1 hk)).1
theorem rel_rows {w : World} {a : Option Addr} {len cap : Nat} {Z : List Int} (h1 : Z.length = 16 * len) (h2 : len ≤ cap) (h3 : cap ≤ maxLen) (h4 : a = none → cap = 0) (h5 : len ≠ 0 → ∃ b off, a = some ⟨b, off, none⟩ ∧ b < w.heap.size ∧ ∀ i, i < 16 * len → w.cell? ⟨b, off + i, none⟩ = some (.int .u8 (Z.getD i 0))) : Rel (noneAt w) (.sl false (B8 Z) len none) (.slice a len cap) := by
  have g : ∀ (i : Nat) x, (B8 Z)[i]? = some x → i < 16 * len ∧ x = .v (.int .u8 (Z.getD i 0)) := fun i x hi => by
    have hlt : i < Z.length := by have := (List.getElem?_eq_some_iff.1 hi).1; simpa [B8] using this
    rw [B8_get _ _ hlt] at hi
    cases hi
    exact ⟨by omega, rfl⟩
  refine .sl (fun i => .int .u8 (Z.getD i 0)) h2 h3 (fun q e => by cases e) (fun e => ⟨rfl, h4 e, by have := h4 e; omega⟩) (fun p e hp => ?_) (fun i x hi => ?_) (fun i x hi => ?_)
  · obtain ⟨b, o, e2, _⟩ := h5 (by omega)
    rw [e2] at e; cases e; rfl
  · have hlt := (g i x hi).1
    obtain ⟨b, o, e2, _, e3⟩ := h5 (by omega)
    exact ⟨b, o, e2, (fun ⟨n, k, h, _⟩ => by cases h), e3 i hlt⟩
  · rw [(g i x hi).2]; exact .v
def vI6 (cl la nx pr ho : Int) (ss ds : List Int) (x : Value) : List Value := .int .u8 cl :: .int .u32 la :: .int .u8 nx :: .int .u8 pr :: .int .u8 ho :: (ss.map (Value.int .u8) ++ (ds.map (Value.int .u8) ++ [x]))
def InIp6 (w : World) (v : Value) : Prop := ∃ cl la nx pr ho ss ds a len cap cs, v = .agg (vI6 cl la nx pr ho ss ds (.slice a len cap)).toArray ∧ Row8 w a len cap cs ∧ 0 ≤ cl ∧ cl ≤ 255 ∧ 0 ≤ la ∧ la < 4294967296 ∧ 0 ≤ nx ∧ nx ≤ 255 ∧ 0 ≤ pr ∧ pr ≤ 255 ∧ 0 ≤ ho ∧ ho ≤ 255 ∧ ss.length = 16 ∧ ds.length = 16 ∧ bytesB ss = true ∧ bytesB ds = true
theorem flat26 : flat Try.prog 4 26 = some (5 :: 22 :: 5 :: 5 :: 5 :: (List.replicate 16 5 ++ (List.replicate 16 5 ++ [24]))) := by kernel_rfl
set_option maxRecDepth 1000000 in
theorem openT26 {H : Type} {enc : TypeId × Value → H} {w : World} {base b0 : Nat} {spare : Nat → Bool} {held : Bool} {r : Reach} {v : Value} {d : DataW H} {p : List MemPlace} (hv : Value.okWide Try.prog w r b0 26 v) (h : DataW.Trod enc Try.prog w base spare held 26 v d p) : InIp6 w v := by
  obtain ⟨cs, rfl, hl⟩ := open_flat flat26 (agg_struct Try.underlying26 hv) h
  obtain ⟨cl, v1, rfl, e0, hl⟩ := leaves_int Try.underlying5 hl
  obtain ⟨la, v2, rfl, e1, hl⟩ := leaves_int Try.underlying22 hl
  obtain ⟨nx, v3, rfl, e2, hl⟩ := leaves_int Try.underlying5 hl
  obtain ⟨pr, v4, rfl, e3, hl⟩ := leaves_int Try.underlying5 hl
  obtain ⟨ho, v5, rfl, e4, hl⟩ := leaves_int Try.underlying5 hl
  obtain ⟨ss, us, hn, rfl, hw, hl⟩ := leaves_ints Try.underlying5 16 hl
  obtain ⟨ds, us, hn2, rfl, hw2, hl⟩ := leaves_ints Try.underlying5 16 hl
  obtain ⟨s, v9, rfl, ⟨k, y, hy⟩, hl⟩ := Wb.leaves_cons hl
  obtain rfl := Wb.leaves_nil hl
  obtain ⟨zs, hz⟩ := leaf_row2 Try.underlying24 Try.underlying5 Try.cells5 hy
  obtain ⟨a, len, cap, os, rfl, hrow⟩ := in8_of_row hz
  have b0 := bounds_u8 e0
  have b1 := b32 e1
  have b2 := bounds_u8 e2
  have b3 := bounds_u8 e3
  have b4 := bounds_u8 e4
  exact ⟨cl, la, nx, pr, ho, ss, ds, a, len, cap, os, rfl, hrow, b0.1, b0.2, b1.1, b1.2, b2.1, b2.2, b3.1, b3.2, b4.1, b4.2, hn, hn2, bytesB_iff.2 fun x hx => bounds_u8 (hw x hx), bytesB_iff.2 fun x hx => bounds_u8 (hw2 x hx)⟩
theorem rel_ip6 {w : World} {cl la nx pr ho : Int} {ss ds : List Int} {a : Option Addr} {len cap : Nat} {cs : List Int} (h : Row8 w a len cap cs) : Rel (noneAt w) (ip6A cl la nx pr ho ss ds (.sl false (B8 cs) len none)) (.agg (vI6 cl la nx pr ho ss ds (.slice a len cap)).toArray) := by
  refine .mkAgg ?_
  show RelL _ _ (vI6 cl la nx pr ho ss ds (.slice a len cap))
  exact .cons .v (.cons .v (.cons .v (.cons .v (.cons .v ((relL_ints _ ss).append ((relL_ints _ ds).append (.cons (rel_row h) (.nil _))))))))
theorem ndpAnswers_walk (w : World) (v0 : Value) (o0 : InIp6 w v0) (v1 : Value) (o1 : InNdp v1) (v2 : Value) (o2 : InAr 6 v2) (v3 : Value) (o3 : In16 w v3) :
    Calls Try.prog 5 #[v0, v1, v2, v3] w fun e w' => e = .returned (.bool true) ∧ Below w.heap.size w w' := by
  obtain ⟨cl, la, nx, pr, ho, ss, ds, a, len, cap, cs, rfl, ro, _, _, _, _, _, _, _, _, _, _, hs, hd, bs', bd⟩ := o0
  obtain ⟨ad, ro', so, ov, T, hm, mc, rfl, hT, hmc, bT, bm⟩ := o1
  obtain ⟨own, rfl, hown, bo⟩ := o2
  obtain ⟨a2, n, cap2, Z, rfl, hZ, q1, q2, q3, q4, q5⟩ := o3
  have hol : cs.length = len := ro.1
  subst hol
  have ra : RelL (noneAt w) [ip6A cl la nx pr ho ss ds (.sl false (B8 cs) cs.length none), ndA ad ro' so ov T hm mc, .agg (B8 own), .sl false (B8 Z) n none] (#[.agg (vI6 cl la nx pr ho ss ds (.slice a cs.length cap)).toArray, .agg (vN ad ro' so ov T hm mc).toArray, .agg (ar own), .slice a2 n cap2] : Array Value).toList :=
    .cons (rel_ip6 ro) (.cons rel_ndp (.cons (rel_ar _ own) (.cons (rel_rows hZ q1 q2 q3 q4) (.nil _))))
  have key : (pvCall Try.prog KNL Dm 100000 1 0 5 [ip6A cl la nx pr ho ss ds (.sl false (B8 cs) cs.length none), ndA ad ro' so ov T hm mc, .agg (B8 own), .sl false (B8 Z) n none] (fun _ => none)).map (·.1) = some (.v (.bool true)) := by
    by_cases hlong : 40 < n
    · exact nlaw_long cl la nx pr ho ss ds cs false none ad ro' so ov hm T mc own Z n false none hs hd hT hmc hown hlong (by unfold maxLen at q2; omega)
    · exact nlaw_short cl la nx pr ho ss ds cs false none ad ro' so ov hm T mc own Z n false none hs hd hT hmc hown hZ bs' bT (bytesB_iff.2 bo) (by omega)
  obtain ⟨⟨x, m'⟩, k1, k2⟩ := Option.map_eq_some_iff.1 key
  simp only at k2
  subst k2
  exact law_of_run knl_ok follows_mixed dm_ok k1 ra
end Go.Proofs.Ytmdafjegddnecaa
