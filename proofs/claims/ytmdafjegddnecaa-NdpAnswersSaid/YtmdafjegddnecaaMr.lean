import Derived.Test.YtmdafjegddnecaaTx
import Derived.Test.YtmdafjegddnecaaNa
import Derived.Test.YtmdafjegddnecaaNb
import Derived.Test.YtmdafjegddnecaaMf
/- Is an address one of some: slices.Index, slices.Contains. -/
namespace Go.Proofs.Ytmdafjegddnecaa
open Go.Pm Go.Wb
set_option linter.unusedVariables false
set_option linter.unusedSimpArgs false
set_option maxRecDepth 1000000
/-- The number of the first address that is T. -/
def ixF (Z T : List Int) : Nat → Nat → Int
  | 0, _ => -1
  | k + 1, j => if (Z.drop (j * 16)).take 16 = T then (j : Int) else ixF Z T k (j + 1)
theorem ixF_pos {Z T : List Int} {n j : Nat} (hj : j < n) (h : (Z.drop (j * 16)).take 16 = T) : ixF Z T (n - j) j = (j : Int) := by
  obtain ⟨k, hk⟩ : ∃ k, n - j = k + 1 := ⟨n - j - 1, by omega⟩
  rw [hk]; unfold ixF; rw [if_pos h]
theorem ixF_neg {Z T : List Int} {n j : Nat} (hj : j < n) (h : ¬ (Z.drop (j * 16)).take 16 = T) : ixF Z T (n - j) j = ixF Z T (n - (j + 1)) (j + 1) := by
  obtain ⟨k, hk⟩ : ∃ k, n - j = k + 1 := ⟨n - j - 1, by omega⟩
  rw [hk, show n - (j + 1) = k by omega]
  conv => lhs; unfold ixF
  rw [if_neg h]
set_option maxHeartbeats 16000000 in
theorem nindex_run (Z T : List Int) (n : Nat) (nn : Bool) (cap : Option Nat) (hZ : Z.length = 16 * n) (hn : n ≤ 1000) (hT : T.length = 16) : runF Try.prog KN Dm 100000 1 124 [.sl nn (B8 Z) n cap, .agg (B8 T)] = some (.v (.int .i64 (ixF Z T n 0)), []) := by
  have t1 : T.take 16 = T := List.take_of_length_le (by omega)
  unfold runF
  rw [pvCall_own (fn := Try.f124) rfl Try.func124 rfl (by decide) rfl rfl (by simp)]
  simp -implicitDefEqProofs [hT, t1]
  generalize hL : loopK _ _ _ _ _ _ _ _ _ ⟨_, _⟩ = R
  obtain ⟨e, t', m', rfl, hk, hm, hQ⟩ := loop_met5 hL [4, 5, 8, 9, 10, 11, 12, 13, 14, 15, 16, 17, 18] []
    (fun j t m => t 8 = .v (.int .i64 (j : Int)) ∧ ixF Z T n 0 = ixF Z T (n - j) j)
    (fun e t m => (e = .exit 0 ∧ ixF Z T n 0 = -1) ∨ (e = .ret ∧ t 4 = .v (.int .i64 (ixF Z T n 0)))) n (by omega) ⟨by simp, rfl⟩
    (fun j t m hj hk hm ⟨ec, hI⟩ => by
      have e0 := hk 0 (by decide)
      have e3 := hk 3 (by decide)
      have e7 := hk 7 (by decide)
      have em3 := hm 3 (by decide)
      simp at e0 e3 e7 em3
      by_cases hq : j = n
      · left
        refine ⟨.exit 0, ?t0p, m, by simp, ?a0p, ?b0p, hm, ?c0p⟩
        case a0p =>
          simp -implicitDefEqProofs [ec, e0, e3, e7, hq]
          exact rfl
        case b0p =>
          repeat' refine Kept.upd ?_ (by decide) _
          exact hk
        case c0p =>
          left
          refine ⟨rfl, ?_⟩
          rw [hI, hq, Nat.sub_self]; rfl
      have hjn : j < n := by omega
      have j1 : (j : Int) < (n : Int) := by omega
      have j2 : j * 16 + 16 ≤ Z.length := by omega
      have j3 : 16 ≤ Z.length - j * 16 := by omega
      have j4 : ((Z.drop (j * 16)).take 16).length = 16 := by simp; omega
      have j5 := pairOk16 hT j4
      have j6 := eqV_ints (hT.trans j4.symm)
      have j7 : IntKind.i64.wrap ((j : Int) + 1) = ((j + 1 : Nat) : Int) := by rw [wrap64_id (by omega) (by omega)]; omega
      simp only [List.map_take, List.map_drop] at j5 j6
      by_cases hh : T = (Z.drop (j * 16)).take 16
      · left
        have hv := ixF_pos (n := n) hjn hh.symm
        refine ⟨.ret, ?t1p, m, by simp, ?a1p, ?b1p, hm, .inr ⟨rfl, ?c1p⟩⟩
        case a1p =>
          simp -implicitDefEqProofs [ec, e0, e3, e7, em3, hT, t1, hjn, j1, j2, j3, j4, j7, ← hh, pairOk16 hT hT, eqV_same T, splice]
          exact rfl
        case b1p =>
          repeat' refine Kept.upd ?_ (by decide) _
          exact hk
        case c1p => simp [hI, hv]
      · right
        have hv := ixF_neg (n := n) hjn (fun h => hh h.symm)
        refine ⟨hjn, ?t2p, ?m2p, ?a2p, ?b2p, ?c2p, ?d2p⟩
        case a2p =>
          simp -implicitDefEqProofs [ec, e0, e3, e7, em3, hT, t1, hjn, j1, j2, j3, j4, j5, j6, j7, hh, splice]
          constructor
          · exact rfl
          · exact rfl
        case b2p =>
          repeat' refine Kept.upd ?_ (by decide) _
          exact hk
        case c2p =>
          repeat' refine KeptM.upd ?_ (by decide) _
          exact hm
        case d2p => exact ⟨by simp, by rw [hI, hv]⟩)
  rcases hQ with ⟨rfl, h⟩ | ⟨rfl, h⟩
  · simp -implicitDefEqProofs [h]
  · simp -implicitDefEqProofs [h]
def fNIndex : Fun
  | [.sl nn c n cap, .agg t] => (asB8 c).bind fun Z => (asB8 t).bind fun T => if Z.length = 16 * n ∧ n ≤ 1000 ∧ T.length = 16 then some (.v (.int .i64 (ixF Z T n 0)), []) else none
  | _ => none
theorem nindex_pure : Pure Try.prog 124 fNIndex := (runF_pure kn_ok follows_mixed dm_ok 100000 1 124).weaken fun args r h => by
  unfold fNIndex at h
  split at h
  · rename_i nn c n cap t
    obtain ⟨Z, hz, h1⟩ := Option.bind_eq_some_iff.1 h
    obtain ⟨T, ht, he⟩ := Option.bind_eq_some_iff.1 h1
    clear h h1
    split at he
    case isFalse => cases he
    rename_i hh
    obtain rfl := asB8_eq hz
    obtain rfl := asB8_eq ht
    rw [← he]
    exact nindex_run Z T n nn cap hh.1 hh.2.1 hh.2.2
  · cases h
noncomputable def KNC : Nat → Option Con
  | 124 => some fNIndex
  | _ => none
theorem knc_ok : KOk Try.prog KNC := fun f F h => by
  unfold KNC at h
  split at h
  · cases h; exact ⟨nindex_pure, _, Try.func124, rfl, by decide⟩
  · cases h
section
variable {D : FuncId → Nat → List Nat} {L d px : Nat} {args : List AV} {m : Mem}
theorem cknc_nindex : pvCall Try.prog KNC D L d px 124 args m = callBy fNIndex m px args := pvCall_by rfl
end
theorem eknc_nindex : KNC 124 = some (.pure fNIndex) := rfl
attribute [simp] cknc_nindex eknc_nindex
theorem ncont_run (Z T : List Int) (n : Nat) (nn : Bool) (cap : Option Nat) (hZ : Z.length = 16 * n) (hn : n ≤ 1000) (hT : T.length = 16) : runF Try.prog KNC Dm 100000 1 62 [.sl nn (B8 Z) n cap, .agg (B8 T)] = some (.v (.bool (decide (0 ≤ ixF Z T n 0))), []) := by
  have t1 : T.take 16 = T := List.take_of_length_le (by omega)
  unfold runF
  rw [pvCall_own (fn := Try.f62) rfl Try.func62 rfl (by decide) rfl rfl (by simp)]
  by_cases h : 0 ≤ ixF Z T n 0
  · simp -implicitDefEqProofs [h, hT, hn, hZ, t1, fNIndex, splice]
  · simp -implicitDefEqProofs [h, hT, hn, hZ, t1, fNIndex, splice]
def fNCont : Fun
  | [.sl nn c n cap, .agg t] => (asB8 c).bind fun Z => (asB8 t).bind fun T => if Z.length = 16 * n ∧ n ≤ 1000 ∧ T.length = 16 then some (.v (.bool (decide (0 ≤ ixF Z T n 0))), []) else none
  | _ => none
theorem ncont_pure : Pure Try.prog 62 fNCont := (runF_pure knc_ok follows_mixed dm_ok 100000 1 62).weaken fun args r h => by
  unfold fNCont at h
  split at h
  · rename_i nn c n cap t
    obtain ⟨Z, hz, h1⟩ := Option.bind_eq_some_iff.1 h
    obtain ⟨T, ht, he⟩ := Option.bind_eq_some_iff.1 h1
    clear h h1
    split at he
    case isFalse => cases he
    rename_i hh
    obtain rfl := asB8_eq hz
    obtain rfl := asB8_eq ht
    rw [← he]
    exact ncont_run Z T n nn cap hh.1 hh.2.1 hh.2.2
  · cases h
end Go.Proofs.Ytmdafjegddnecaa


/- Neighbours' messages: an advertisement's packet. -/
namespace Go.Proofs.Ytmdafjegddnecaa
open Go.Pm Go.Wb
set_option linter.unusedVariables false
set_option linter.unusedSimpArgs false
set_option maxRecDepth 1000000
def fNWrite : Fun
  | [.agg a, .agg b, .agg (.v (.bool true) :: .v (.bool false) :: .v (.bool s) :: .v (.bool true) :: rest)] => (asB8 a).bind fun S => (asB8 b).bind fun D => (asB8 (rest.take 16)).bind fun T => match rest.drop 16 with
    | .v (.bool true) :: mm => (asB8 mm).bind fun mac => if S.length = 16 ∧ D.length = 16 ∧ T.length = 16 ∧ mac.length = 6 ∧ bytesB S = true ∧ bytesB D = true ∧ bytesB T = true ∧ bytesB mac = true then some (nwV S D s T mac) else none
    | _ => none
  | _ => none
theorem nwrite_pure : Pure Try.prog 18 fNWrite := (runF_pure knw_ok follows_mixed dm_ok 100000 1 18).weaken fun args r h => by
  unfold fNWrite at h
  split at h
  · rename_i a b s rest
    obtain ⟨S, e1, h1⟩ := Option.bind_eq_some_iff.1 h
    obtain ⟨D, e2, h2⟩ := Option.bind_eq_some_iff.1 h1
    obtain ⟨T, e3, h3⟩ := Option.bind_eq_some_iff.1 h2
    clear h h1 h2
    split at h3
    · rename_i mm hr
      obtain ⟨mac, e4, he⟩ := Option.bind_eq_some_iff.1 h3
      clear h3
      split at he
      case isFalse => cases he
      rename_i hh
      obtain ⟨x1, x2, x3, x4, x5, x6, x7, x8⟩ := hh
      obtain rfl := asB8_eq e1
      obtain rfl := asB8_eq e2
      have e3' := asB8_eq e3
      obtain rfl := asB8_eq e4
      have hrest : rest = B8 T ++ (.v (.bool true) :: B8 mac) := by rw [← e3', ← hr, List.take_append_drop]
      subst hrest
      rw [← he]
      match T, x3, mac, x4 with
      | [a0, a1, a2, a3, a4, a5, a6, a7, a8, a9, a10, a11, a12, a13, a14, a15], _, [b0, b1, b2, b3, b4, b5], _ => exact nwrite_run S D s a0 a1 a2 a3 a4 a5 a6 a7 a8 a9 a10 a11 a12 a13 a14 a15 b0 b1 b2 b3 b4 b5 x1 x2 x5 x6 x7 x8
    · cases h3
  · cases h
theorem nrwrite_pure : Pure Try.prog 125 fNWrite := (runF_pure knw_ok follows_mixed dm_ok 100000 1 125).weaken fun args r h => by
  unfold fNWrite at h
  split at h
  · rename_i a b s rest
    obtain ⟨S, e1, h1⟩ := Option.bind_eq_some_iff.1 h
    obtain ⟨D, e2, h2⟩ := Option.bind_eq_some_iff.1 h1
    obtain ⟨T, e3, h3⟩ := Option.bind_eq_some_iff.1 h2
    clear h h1 h2
    split at h3
    · rename_i mm hr
      obtain ⟨mac, e4, he⟩ := Option.bind_eq_some_iff.1 h3
      clear h3
      split at he
      case isFalse => cases he
      rename_i hh
      obtain ⟨x1, x2, x3, x4, x5, x6, x7, x8⟩ := hh
      obtain rfl := asB8_eq e1
      obtain rfl := asB8_eq e2
      have e3' := asB8_eq e3
      obtain rfl := asB8_eq e4
      have hrest : rest = B8 T ++ (.v (.bool true) :: B8 mac) := by rw [← e3', ← hr, List.take_append_drop]
      subst hrest
      rw [← he]
      match T, x3, mac, x4 with
      | [a0, a1, a2, a3, a4, a5, a6, a7, a8, a9, a10, a11, a12, a13, a14, a15], _, [b0, b1, b2, b3, b4, b5], _ => exact nrwrite_run S D s a0 a1 a2 a3 a4 a5 a6 a7 a8 a9 a10 a11 a12 a13 a14 a15 b0 b1 b2 b3 b4 b5 x1 x2 x5 x6 x7 x8
    · cases h3
  · cases h
noncomputable def KNP : Nat → Option Con
  | 18 => some fNWrite
  | 125 => some fNWrite
  | 44 => some fW6
  | 126 => some fW6
  | _ => none
theorem knp_ok : KOk Try.prog KNP := fun f F h => by
  unfold KNP at h
  split at h
  · cases h; exact ⟨nwrite_pure, _, Try.func18, rfl, by decide⟩
  · cases h; exact ⟨nrwrite_pure, _, Try.func125, rfl, by decide⟩
  · cases h; exact ⟨w6_pure, _, Try.func44, rfl, by decide⟩
  · cases h; exact ⟨rw6_pure, _, Try.func126, rfl, by decide⟩
  · cases h
section
variable {D : FuncId → Nat → List Nat} {L d px : Nat} {args : List AV} {m : Mem}
theorem cknp_nwrite : pvCall Try.prog KNP D L d px 18 args m = callBy fNWrite m px args := pvCall_by rfl
theorem cknp_nrwrite : pvCall Try.prog KNP D L d px 125 args m = callBy fNWrite m px args := pvCall_by rfl
theorem cknp_w6 : pvCall Try.prog KNP D L d px 44 args m = callBy fW6 m px args := pvCall_by rfl
theorem cknp_rw6 : pvCall Try.prog KNP D L d px 126 args m = callBy fW6 m px args := pvCall_by rfl
end
theorem eknp_nwrite : KNP 18 = some (.pure fNWrite) := rfl
theorem eknp_nrwrite : KNP 125 = some (.pure fNWrite) := rfl
theorem eknp_w6 : KNP 44 = some (.pure fW6) := rfl
theorem eknp_rw6 : KNP 126 = some (.pure fW6) := rfl
attribute [simp] cknp_nwrite eknp_nwrite cknp_nrwrite eknp_nrwrite cknp_w6 eknp_w6 cknp_rw6 eknp_rw6
def npM (T D : List Int) (s : Bool) (mac : List Int) : List Int := nwM (skV true T D (136 :: 0 :: 0 :: 0 :: nwX s T mac)) (nwX s T mac)
def npW (T D : List Int) (s : Bool) (mac : List Int) : List Int := head6 0 0 58 255 ((([] : List Int).length : Int) + ((npM T D s mac).length : Int)) ++ (T ++ (D ++ ([] ++ npM T D s mac)))
def npV (T D : List Int) (s : Bool) (mac : List Int) : AV × List (List AV) := if gb T 0 = 255 then ewE 5 else ewC (npW T D s mac)
theorem npM_len {T D mac : List Int} {s : Bool} (hT : T.length = 16) (hm : mac.length = 6) : (npM T D s mac).length = 32 := by simp [npM, nwM, nwX, hT, hm]
theorem npW_len {T D mac : List Int} {s : Bool} (hT : T.length = 16) (hD : D.length = 16) (hm : mac.length = 6) : (npW T D s mac).length = 72 := by simp [npW, head6, npM_len hT hm, hT, hD]
theorem np_w6 {T D mac : List Int} {s : Bool} (hT : T.length = 16) (hm : mac.length = 6) : w6V 0 0 58 58 255 T D [] (npM T D s mac) = ewC (npW T D s mac) := by
  have hc : chainF 9 58 [] 0 0 = (58, 0, 0) := rfl
  unfold w6V
  rw [if_neg (by unfold bad6; rw [hc]; simp), if_neg (by rw [npM_len hT hm]; simp)]
  rfl
set_option maxHeartbeats 16000000 in
theorem npack_run (T D : List Int) (s : Bool) (mac : List Int) (hT : T.length = 16) (hD : D.length = 16) (hm : mac.length = 6) (bT : bytesB T = true) (bD : bytesB D = true) (bM : bytesB mac = true) : runF Try.prog KNP Dm 100000 1 63 [.agg (B8 T), .agg (B8 D), ndA true false s true T true mac] = some (npV T D s mac) := by
  have t1 : T.take 16 = T := List.take_of_length_le (by omega)
  have t2 : D.take 16 = D := List.take_of_length_le (by omega)
  have t3 : mac.take 6 = mac := List.take_of_length_le (by omega)
  have g6 : good6 0 0 58 58 255 T D [] := ⟨by decide, by decide, by decide, by decide, by decide, by decide, by decide, by decide, by decide, by decide, hT, hD, bT, bD, rfl, by decide⟩
  have a6 := asI6_at (cl := 0) (la := 0) (nx := 58) (pr := 58) (ho := 255) (ss := T) (ds := D) (cs := []) (len := 0) hT hD rfl
  simp only [B8vn] at a6
  have d20 : ∀ X : List AV, (B8 T ++ X).drop 20 = X.drop 4 := fun X => by rw [show (20 : Nat) = 16 + 4 from rfl, ← List.drop_drop, B8d16 hT]
  have k23 : ∀ x : AV, (B8 T ++ x :: B8 mac).take 23 = B8 T ++ x :: B8 mac := fun x => List.take_of_length_le (by simp [hT, hm])
  unfold runF npV
  rw [pvCall_own (fn := Try.f63) rfl Try.func63 rfl (by decide) rfl rfl (by simp)]
  by_cases h : gb T 0 = 255
  · have hW : nwV T D s T mac = ewE 5 := by unfold nwV; rw [if_pos h]
    cases s <;> simp -implicitDefEqProofs [k23, h, hW, ndA, fNWrite, hT, hD, hm, bT, bD, bM, t1, t2, t3, ewE, splice, B8t16 hT, B8d16 hT, B8t33 hT, B8t17 hT, B8d32 hT, B8t32 hT, B8d33 hT, B8d17 hT, B8d34 hT, B8d18 hT, B8t34 hT, B8t18 hT, B8t16 hD, B8d16 hD, B8t33 hD, B8t17 hD, B8d32 hD, B8t32 hD, B8d33 hD, B8d17 hD, B8d34 hD, B8d18 hD, B8t34 hD, B8t18 hD, -B8_append]
  have hW : nwV T D s T mac = ewC (npM T D s mac) := by unfold nwV; rw [if_neg h]; rfl
  have hw := np_w6 (D := D) (s := s) hT hm
  have hl := npM_len (D := D) (s := s) hT hm
  generalize npM T D s mac = M at *
  generalize npW T D s mac = W at *
  have l1 : M.length ≤ 500000 := by omega
  have l2 : M.take M.length = M := List.take_length
  have l3 : M.take 32 = M := List.take_of_length_le (by omega)
  cases s <;> simp -implicitDefEqProofs [k23, h, hW, hw, g6, a6, hl, l1, l2, l3, ndA, fNWrite, fW6, hT, hD, hm, bT, bD, bM, t1, t2, t3, ewC, splice, B8t16 hT, B8d16 hT, B8t33 hT, B8t17 hT, B8d32 hT, B8t32 hT, B8d33 hT, B8d17 hT, B8d34 hT, B8d18 hT, B8t34 hT, B8t18 hT, B8t16 hD, B8d16 hD, B8t33 hD, B8t17 hD, B8d32 hD, B8t32 hD, B8d33 hD, B8d17 hD, B8d34 hD, B8d18 hD, B8t34 hD, B8t18 hD, -B8_append]
set_option maxHeartbeats 16000000 in
theorem nrpack_run (T D : List Int) (s : Bool) (mac : List Int) (hT : T.length = 16) (hD : D.length = 16) (hm : mac.length = 6) (bT : bytesB T = true) (bD : bytesB D = true) (bM : bytesB mac = true) : runF Try.prog KNP Dm 100000 1 64 [.agg (B8 T), .agg (B8 D), ndA true false s true T true mac] = some (npV T D s mac) := by
  have t1 : T.take 16 = T := List.take_of_length_le (by omega)
  have t2 : D.take 16 = D := List.take_of_length_le (by omega)
  have t3 : mac.take 6 = mac := List.take_of_length_le (by omega)
  have g6 : good6 0 0 58 58 255 T D [] := ⟨by decide, by decide, by decide, by decide, by decide, by decide, by decide, by decide, by decide, by decide, hT, hD, bT, bD, rfl, by decide⟩
  have a6 := asI6_at (cl := 0) (la := 0) (nx := 58) (pr := 58) (ho := 255) (ss := T) (ds := D) (cs := []) (len := 0) hT hD rfl
  simp only [B8vn] at a6
  have d20 : ∀ X : List AV, (B8 T ++ X).drop 20 = X.drop 4 := fun X => by rw [show (20 : Nat) = 16 + 4 from rfl, ← List.drop_drop, B8d16 hT]
  have k23 : ∀ x : AV, (B8 T ++ x :: B8 mac).take 23 = B8 T ++ x :: B8 mac := fun x => List.take_of_length_le (by simp [hT, hm])
  unfold runF npV
  rw [pvCall_own (fn := Try.f64) rfl Try.func64 rfl (by decide) rfl rfl (by simp)]
  by_cases h : gb T 0 = 255
  · have hW : nwV T D s T mac = ewE 5 := by unfold nwV; rw [if_pos h]
    cases s <;> simp -implicitDefEqProofs [k23, h, hW, ndA, fNWrite, hT, hD, hm, bT, bD, bM, t1, t2, t3, ewE, splice, B8t16 hT, B8d16 hT, B8t33 hT, B8t17 hT, B8d32 hT, B8t32 hT, B8d33 hT, B8d17 hT, B8d34 hT, B8d18 hT, B8t34 hT, B8t18 hT, B8t16 hD, B8d16 hD, B8t33 hD, B8t17 hD, B8d32 hD, B8t32 hD, B8d33 hD, B8d17 hD, B8d34 hD, B8d18 hD, B8t34 hD, B8t18 hD, -B8_append]
  have hW : nwV T D s T mac = ewC (npM T D s mac) := by unfold nwV; rw [if_neg h]; rfl
  have hw := np_w6 (D := D) (s := s) hT hm
  have hl := npM_len (D := D) (s := s) hT hm
  generalize npM T D s mac = M at *
  generalize npW T D s mac = W at *
  have l1 : M.length ≤ 500000 := by omega
  have l2 : M.take M.length = M := List.take_length
  have l3 : M.take 32 = M := List.take_of_length_le (by omega)
  cases s <;> simp -implicitDefEqProofs [k23, h, hW, hw, g6, a6, hl, l1, l2, l3, ndA, fNWrite, fW6, hT, hD, hm, bT, bD, bM, t1, t2, t3, ewC, splice, B8t16 hT, B8d16 hT, B8t33 hT, B8t17 hT, B8d32 hT, B8t32 hT, B8d33 hT, B8d17 hT, B8d34 hT, B8d18 hT, B8t34 hT, B8t18 hT, B8t16 hD, B8d16 hD, B8t33 hD, B8t17 hD, B8d32 hD, B8t32 hD, B8d33 hD, B8d17 hD, B8d34 hD, B8d18 hD, B8t34 hD, B8t18 hD, -B8_append]
end Go.Proofs.Ytmdafjegddnecaa

/- Who is answered: ndp.Answer as a function of values. -/
namespace Go.Proofs.Ytmdafjegddnecaa
open Go.Pm Go.Wb
set_option linter.unusedVariables false
set_option linter.unusedSimpArgs false
set_option maxRecDepth 1000000
def fNPack : Fun
  | [.agg a, .agg b, .agg (.v (.bool true) :: .v (.bool false) :: .v (.bool s) :: .v (.bool true) :: rest)] => (asB8 a).bind fun S => (asB8 b).bind fun D => (asB8 (rest.take 16)).bind fun T => match rest.drop 16 with
    | .v (.bool true) :: mm => (asB8 mm).bind fun mac => if S = T ∧ D.length = 16 ∧ T.length = 16 ∧ mac.length = 6 ∧ bytesB D = true ∧ bytesB T = true ∧ bytesB mac = true then some (npV T D s mac) else none
    | _ => none
  | _ => none
theorem npack_pure : Pure Try.prog 63 fNPack := (runF_pure knp_ok follows_mixed dm_ok 100000 1 63).weaken fun args r h => by
  unfold fNPack at h
  split at h
  · rename_i a b s rest
    obtain ⟨S, e1, h1⟩ := Option.bind_eq_some_iff.1 h
    obtain ⟨D, e2, h2⟩ := Option.bind_eq_some_iff.1 h1
    obtain ⟨T, e3, h3⟩ := Option.bind_eq_some_iff.1 h2
    clear h h1 h2
    split at h3
    · rename_i mm hr
      obtain ⟨mac, e4, he⟩ := Option.bind_eq_some_iff.1 h3
      clear h3
      split at he
      case isFalse => cases he
      rename_i hh
      obtain ⟨rfl, x2, x3, x4, x6, x7, x8⟩ := hh
      obtain rfl := asB8_eq e1
      obtain rfl := asB8_eq e2
      have e3' := asB8_eq e3
      obtain rfl := asB8_eq e4
      have hrest : rest = B8 S ++ (.v (.bool true) :: B8 mac) := by rw [← e3', ← hr, List.take_append_drop]
      subst hrest
      rw [← he]
      exact npack_run S D s mac x3 x2 x4 x7 x6 x8
    · cases h3
  · cases h
def ndM1 : List Int := [255, 2, 0, 0, 0, 0, 0, 0, 0, 0, 0, 0, 0, 0, 0, 1]
def nF : AV × List (List AV) := (.tup [.v (.slice none 0 0), .v (.bool false)], [])
theorem asB8_ndM1 : asB8 [.v (.int .u8 255), .v (.int .u8 2), .v (.int .u8 0), .v (.int .u8 0), .v (.int .u8 0), .v (.int .u8 0), .v (.int .u8 0), .v (.int .u8 0), .v (.int .u8 0), .v (.int .u8 0), .v (.int .u8 0), .v (.int .u8 0), .v (.int .u8 0), .v (.int .u8 0), .v (.int .u8 0), .v (.int .u8 1)] = some ndM1 := rfl
def naD (S : List Int) : List Int := if S = z16 then ndM1 else S
def naV (ad : Bool) (S T own Z : List Int) (n : Nat) : AV × List (List AV) := if ad = true ∨ ¬ 0 ≤ ixF Z T n 0 then nF else if gb T 0 = 255 then nF else (.tup [.own 0 0 0 (npW T (naD S) (decide (¬ S = z16)) own).length 1 (.whole 5), .v (.bool true)], [B8 (npW T (naD S) (decide (¬ S = z16)) own)])
noncomputable def KNA : Nat → Option Con
  | 63 => some fNPack
  | 62 => some fNCont
  | _ => none
theorem kna_ok : KOk Try.prog KNA := fun f F h => by
  unfold KNA at h
  split at h
  · cases h; exact ⟨npack_pure, _, Try.func63, rfl, by decide⟩
  · cases h; exact ⟨ncont_pure, _, Try.func62, rfl, by decide⟩
  · cases h
section
variable {D : FuncId → Nat → List Nat} {L d px : Nat} {args : List AV} {m : Mem}
theorem ckna_npack : pvCall Try.prog KNA D L d px 63 args m = callBy fNPack m px args := pvCall_by rfl
theorem ckna_ncont : pvCall Try.prog KNA D L d px 62 args m = callBy fNCont m px args := pvCall_by rfl
end
theorem ekna_npack : KNA 63 = some (.pure fNPack) := rfl
theorem ekna_ncont : KNA 62 = some (.pure fNCont) := rfl
attribute [simp] ckna_npack ekna_npack ckna_ncont ekna_ncont
set_option maxHeartbeats 32000000 in
theorem nans_run (cl la nx pr ho : Int) (S D : List Int) (cs : List Int) (cn : Bool) (cc : Option Nat) (ad ro so ov hm : Bool) (T mc own Z : List Int) (n : Nat) (nn : Bool) (cap : Option Nat) (hS : S.length = 16) (hD : D.length = 16) (hT : T.length = 16) (hmc : mc.length = 6) (hown : own.length = 6) (hZ : Z.length = 16 * n) (hn : n ≤ 1000) (bS : bytesB S = true) (bT : bytesB T = true) (bo : bytesB own = true) : runF Try.prog KNA Dm 100000 1 19 [ip6A cl la nx pr ho S D (.sl cn (B8 cs) cs.length cc), ndA ad ro so ov T hm mc, .agg (B8 own), .sl nn (B8 Z) n cap] = some (naV ad S T own Z n) := by
  have t1 : S.take 16 = S := List.take_of_length_le (by omega)
  have t2 : D.take 16 = D := List.take_of_length_le (by omega)
  have t3 : T.take 16 = T := List.take_of_length_le (by omega)
  have t4 : own.take 6 = own := List.take_of_length_le (by omega)
  have t5 : mc.take 6 = mc := List.take_of_length_le (by omega)
  have k33 : ∀ x : AV, (B8 S ++ (B8 D ++ [x])).take 33 = B8 S ++ (B8 D ++ [x]) := fun x => List.take_of_length_le (by simp [hS, hD])
  have k23 : ∀ x : AV, (B8 T ++ x :: B8 mc).take 23 = B8 T ++ x :: B8 mc := fun x => List.take_of_length_le (by simp [hT, hmc])
  have k23o : ∀ x : AV, (B8 T ++ x :: B8 own).take 23 = B8 T ++ x :: B8 own := fun x => List.take_of_length_le (by simp [hT, hown])
  have d23 : ∀ X : List AV, (B8 T ++ X).drop 23 = X.drop 7 := fun X => by rw [show (23 : Nat) = 16 + 7 from rfl, ← List.drop_drop, B8d16 hT]
  have dS : S.drop 16 = [] := List.drop_eq_nil_of_le (by omega)
  have eqS : eqV (S.map (Value.int .u8)) (z16.map (Value.int .u8)) = decide (S = z16) := eqV_ints (hS.trans rfl)
  have pkS := pairOk16 hS (show z16.length = 16 from rfl)
  simp only [z16, List.map_cons, List.map_nil] at eqS pkS
  have bm1 : bytesB ndM1 = true := by decide
  have hm1 : ndM1.length = 16 := rfl
  have hW1 := npW_len (T := T) (D := ndM1) (s := false) (mac := own) hT hm1 hown
  have hW2 := npW_len (T := T) (D := S) (s := true) (mac := own) hT hS hown
  have hndM : [255, 2, 0, 0, 0, 0, 0, 0, 0, 0, 0, 0, 0, 0, 0, 1] = ndM1 := rfl
  unfold runF naV
  rw [pvCall_own (fn := Try.f19) rfl Try.func19 rfl (by decide) rfl rfl (by simp)]
  cases ad with
  | true => simp -implicitDefEqProofs [nF, asB8_ndM1, d23, dS, t1, t2, t3, t4, t5, k33, k23, k23o, eqS, pkS, bm1, hm1, hS, hD, hT, hmc, hown, hZ, hn, bS, bT, bo, ip6A, ndA, splice, B8t16 hT, B8d16 hT, B8t33 hT, B8t17 hT, B8d32 hT, B8t32 hT, B8d33 hT, B8d17 hT, B8d34 hT, B8d18 hT, B8t34 hT, B8t18 hT, B8t16 hS, B8d16 hS, B8t33 hS, B8t17 hS, B8d32 hS, B8t32 hS, B8d33 hS, B8d17 hS, B8d34 hS, B8d18 hS, B8t34 hS, B8t18 hS, B8t16 hD, B8d16 hD, B8t33 hD, B8t17 hD, B8d32 hD, B8t32 hD, B8d33 hD, B8d17 hD, B8d34 hD, B8d18 hD, B8t34 hD, B8t18 hD, -B8_append]
  | false =>
    by_cases hx : 0 ≤ ixF Z T n 0
    case neg => simp -implicitDefEqProofs [hx, nF, fNCont, asB8_ndM1, d23, dS, t1, t2, t3, t4, t5, k33, k23, k23o, eqS, pkS, bm1, hm1, hS, hD, hT, hmc, hown, hZ, hn, bS, bT, bo, ip6A, ndA, splice, B8t16 hT, B8d16 hT, B8t33 hT, B8t17 hT, B8d32 hT, B8t32 hT, B8d33 hT, B8d17 hT, B8d34 hT, B8d18 hT, B8t34 hT, B8t18 hT, B8t16 hS, B8d16 hS, B8t33 hS, B8t17 hS, B8d32 hS, B8t32 hS, B8d33 hS, B8d17 hS, B8d34 hS, B8d18 hS, B8t34 hS, B8t18 hS, B8t16 hD, B8d16 hD, B8t33 hD, B8t17 hD, B8d32 hD, B8t32 hD, B8d33 hD, B8d17 hD, B8d34 hD, B8d18 hD, B8t34 hD, B8t18 hD, -B8_append]
    by_cases hz0 : S = z16
    · have hz1 : (S = z16) = True := by simp only [hz0]
      have hzl : (S = [0, 0, 0, 0, 0, 0, 0, 0, 0, 0, 0, 0, 0, 0, 0, 0]) = True := hz1
      have hd : naD S = ndM1 := by unfold naD; rw [if_pos hz0]
      by_cases h : gb T 0 = 255
      · have hv : npV T ndM1 false own = ewE 5 := by unfold npV; rw [if_pos h]
        simp -implicitDefEqProofs [h, hv, hd, hx, hz1, hzl, nF, ewE, fNCont, fNPack, asB8_ndM1, d23, dS, t1, t2, t3, t4, t5, k33, k23, k23o, eqS, pkS, bm1, hm1, hS, hD, hT, hmc, hown, hZ, hn, bS, bT, bo, ip6A, ndA, splice, B8t16 hT, B8d16 hT, B8t33 hT, B8t17 hT, B8d32 hT, B8t32 hT, B8d33 hT, B8d17 hT, B8d34 hT, B8d18 hT, B8t34 hT, B8t18 hT, B8t16 hS, B8d16 hS, B8t33 hS, B8t17 hS, B8d32 hS, B8t32 hS, B8d33 hS, B8d17 hS, B8d34 hS, B8d18 hS, B8t34 hS, B8t18 hS, B8t16 hD, B8d16 hD, B8t33 hD, B8t17 hD, B8d32 hD, B8t32 hD, B8d33 hD, B8d17 hD, B8d34 hD, B8d18 hD, B8t34 hD, B8t18 hD, -B8_append]
      · have hv : npV T ndM1 false own = ewC (npW T ndM1 false own) := by unfold npV; rw [if_neg h]
        have hw : decide (¬ S = z16) = false := by simp [hz0]
        rw [hd, hw]
        simp -implicitDefEqProofs [h, hv, hd, hx, hz1, hzl, hW1, nF, ewC, fNCont, fNPack, asB8_ndM1, d23, dS, t1, t2, t3, t4, t5, k33, k23, k23o, eqS, pkS, bm1, hm1, hS, hD, hT, hmc, hown, hZ, hn, bS, bT, bo, ip6A, ndA, splice, B8t16 hT, B8d16 hT, B8t33 hT, B8t17 hT, B8d32 hT, B8t32 hT, B8d33 hT, B8d17 hT, B8d34 hT, B8d18 hT, B8t34 hT, B8t18 hT, B8t16 hS, B8d16 hS, B8t33 hS, B8t17 hS, B8d32 hS, B8t32 hS, B8d33 hS, B8d17 hS, B8d34 hS, B8d18 hS, B8t34 hS, B8t18 hS, B8t16 hD, B8d16 hD, B8t33 hD, B8t17 hD, B8d32 hD, B8t32 hD, B8d33 hD, B8d17 hD, B8d34 hD, B8d18 hD, B8t34 hD, B8t18 hD, -B8_append]
    · have hz1 : (S = z16) = False := by simp only [hz0]
      have hzl : (S = [0, 0, 0, 0, 0, 0, 0, 0, 0, 0, 0, 0, 0, 0, 0, 0]) = False := hz1
      have hd : naD S = S := by unfold naD; rw [if_neg hz0]
      by_cases h : gb T 0 = 255
      · have hv : npV T S true own = ewE 5 := by unfold npV; rw [if_pos h]
        simp -implicitDefEqProofs [h, hv, hd, hx, hz1, hzl, nF, ewE, fNCont, fNPack, asB8_ndM1, d23, dS, t1, t2, t3, t4, t5, k33, k23, k23o, eqS, pkS, bm1, hm1, hS, hD, hT, hmc, hown, hZ, hn, bS, bT, bo, ip6A, ndA, splice, B8t16 hT, B8d16 hT, B8t33 hT, B8t17 hT, B8d32 hT, B8t32 hT, B8d33 hT, B8d17 hT, B8d34 hT, B8d18 hT, B8t34 hT, B8t18 hT, B8t16 hS, B8d16 hS, B8t33 hS, B8t17 hS, B8d32 hS, B8t32 hS, B8d33 hS, B8d17 hS, B8d34 hS, B8d18 hS, B8t34 hS, B8t18 hS, B8t16 hD, B8d16 hD, B8t33 hD, B8t17 hD, B8d32 hD, B8t32 hD, B8d33 hD, B8d17 hD, B8d34 hD, B8d18 hD, B8t34 hD, B8t18 hD, -B8_append]
      · have hv : npV T S true own = ewC (npW T S true own) := by unfold npV; rw [if_neg h]
        have hw : decide (¬ S = z16) = true := by simp [hz0]
        rw [hd, hw]
        simp -implicitDefEqProofs [h, hv, hd, hx, hz1, hzl, hW2, nF, ewC, fNCont, fNPack, asB8_ndM1, d23, dS, t1, t2, t3, t4, t5, k33, k23, k23o, eqS, pkS, bm1, hm1, hS, hD, hT, hmc, hown, hZ, hn, bS, bT, bo, ip6A, ndA, splice, B8t16 hT, B8d16 hT, B8t33 hT, B8t17 hT, B8d32 hT, B8t32 hT, B8d33 hT, B8d17 hT, B8d34 hT, B8d18 hT, B8t34 hT, B8t18 hT, B8t16 hS, B8d16 hS, B8t33 hS, B8t17 hS, B8d32 hS, B8t32 hS, B8d33 hS, B8d17 hS, B8d34 hS, B8d18 hS, B8t34 hS, B8t18 hS, B8t16 hD, B8d16 hD, B8t33 hD, B8t17 hD, B8d32 hD, B8t32 hD, B8d33 hD, B8d17 hD, B8d34 hD, B8d18 hD, B8t34 hD, B8t18 hD, -B8_append]
end Go.Proofs.Ytmdafjegddnecaa
