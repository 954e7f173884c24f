/- The law AnswerBack as a function of values. -/
import Derived.Test.YtmdafjegddnecaaTx
import Derived.Test.YtmdafjegddnecaaMk
import Derived.Test.YtmdafjegddnecaaMj
namespace Go.Proofs.Ytmdafjegddnecaa
open Go.Pm Go.Wb Go.RowKit
set_option linter.unusedVariables false
set_option linter.unusedSimpArgs false
set_option maxRecDepth 1000000
noncomputable def KAB : Nat → Option Con
  | 38 => some fARead
  | 40 => some fAWrite
  | 43 => some fW4
  | 44 => some fW6
  | 46 => some fAEcho
  | 37 => some fKnown37
  | 45 => some fABack1
  | _ => none
theorem kab_ok : KOk Try.prog KAB := fun f F h => by
  unfold KAB at h
  split at h
  · cases h; exact ⟨aread_pure, _, Try.func38, rfl, by decide⟩
  · cases h; exact ⟨awrite_pure, _, Try.func40, rfl, by decide⟩
  · cases h; exact ⟨w4_pure, _, Try.func43, rfl, by decide⟩
  · cases h; exact ⟨w6_pure, _, Try.func44, rfl, by decide⟩
  · cases h; exact ⟨aecho_pure, _, Try.func46, rfl, by decide⟩
  · cases h; exact ⟨known37_pure, _, Try.func37, rfl, by decide⟩
  · cases h; exact ⟨aback1_pure, _, Try.func45, rfl, by decide⟩
  · cases h
section
variable {D : FuncId → Nat → List Nat} {L d px : Nat} {args : List AV} {m : Mem}
theorem ckab_aread : pvCall Try.prog KAB D L d px 38 args m = callBy fARead m px args := pvCall_by rfl
theorem ckab_awrite : pvCall Try.prog KAB D L d px 40 args m = callBy fAWrite m px args := pvCall_by rfl
theorem ckab_w4 : pvCall Try.prog KAB D L d px 43 args m = callBy fW4 m px args := pvCall_by rfl
theorem ckab_w6 : pvCall Try.prog KAB D L d px 44 args m = callBy fW6 m px args := pvCall_by rfl
theorem ckab_aecho : pvCall Try.prog KAB D L d px 46 args m = callBy fAEcho m px args := pvCall_by rfl
theorem ckab_known : pvCall Try.prog KAB D L d px 37 args m = callBy fKnown37 m px args := pvCall_by rfl
theorem ckab_aback1 : pvCall Try.prog KAB D L d px 45 args m = callBy fABack1 m px args := pvCall_by rfl
end
theorem ekab_aread : KAB 38 = some (.pure fARead) := rfl
theorem ekab_awrite : KAB 40 = some (.pure fAWrite) := rfl
theorem ekab_w4 : KAB 43 = some (.pure fW4) := rfl
theorem ekab_w6 : KAB 44 = some (.pure fW6) := rfl
theorem ekab_aecho : KAB 46 = some (.pure fAEcho) := rfl
theorem ekab_known : KAB 37 = some (.pure fKnown37) := rfl
theorem ekab_aback1 : KAB 45 = some (.pure fABack1) := rfl
attribute [simp] ckab_aread ekab_aread ckab_awrite ekab_awrite ckab_w4 ekab_w4 ckab_w6 ekab_w6 ckab_aecho ekab_aecho ckab_known ekab_known ckab_aback1 ekab_aback1
set_option maxHeartbeats 8000000 in
theorem aback_long (v6 : Bool) (ss ds : List Int) (re : Bool) (id nu : Int) (ps : List Int) (xn : Bool) (xc : Option Nat) (hp : ps.length ≤ 9223372036854775807) (hs : ss.length = 16) (hd : ds.length = 16) (h : 1400 < ps.length) : (pvCall Try.prog KAB Dm 100000 1 0 12 [.v (.bool v6), .agg (B8 ss), .agg (B8 ds), echA re id nu (.sl xn (B8 ps) ps.length xc)] (fun _ => none)).map (·.1) = some (.v (.bool true)) := by
  have t1 : ss.take 16 = ss := List.take_of_length_le (by omega)
  have t2 : ds.take 16 = ds := List.take_of_length_le (by omega)
  rw [pvCall_own (fn := Try.f12) rfl Try.func12 rfl (by decide) rfl rfl (by simp)]
  have i1 : (1400 : Int) < (ps.length : Int) := by omega
  simp -implicitDefEqProofs [i1, hs, hd, t1, t2, echA, fKnown37, splice]
set_option maxHeartbeats 32000000 in
theorem aback_s_re (ss ds : List Int) (hs : ss.length = 16) (hd : ds.length = 16) (re : Bool) (id nu : Int) (ps : List Int) (xn : Bool) (xc : Option Nat) (M P : List Int) (hW : ewV true ss ds re id nu ps = ewC M) (hMl : M.length = 8 + ps.length) (hMb : bytesB M = true) (hV : ecV true ss ds M = (.tup [echA re id nu (.own 0 0 0 ps.length 1 (.whole 5)), .v (.int .i64 0)], [B8 ps])) (hP0 : pk3 true ss ds M = ewC P) (hPl : P.length ≤ 1500) (hPb : bytesB P = true) (e : Int) (ne : ¬ e = 0) (hE : ekV P = ewE e) (hre : re = true) (h1 : ps.length ≤ 1400) (hge : goodE id nu ss ds ps ps.length) : (pvCall Try.prog KAB Dm 100000 1 0 12 [.v (.bool true), .agg (B8 ss), .agg (B8 ds), echA re id nu (.sl xn (B8 ps) ps.length xc)] (fun _ => none)).map (·.1) = some (.v (.bool true)) := by
  have hge1 := hge
  obtain ⟨_, _, hs', hd', hz, bs, bd, _⟩ := hge1
  have u1 : ¬ (1400 : Int) < (ps.length : Int) := by omega
  have l8 : ps.take ps.length = ps := List.take_length
  have l9 : ps.length ≤ 9223372036854775807 := by omega
  have w1 : M.length ≤ 500000 := by omega
  have w2 : M.take M.length = M := List.take_length
  have w3 : M.length ≤ 9223372036854775807 := by omega
  have p1 : P.length ≤ 500000 := by omega
  have p2 : P.take P.length = P := List.take_length
  have hgm : goodM ss ds M M.length := ⟨rfl, w1, hs', hd', hMb, bs, bd⟩
  have g6 : good6 0 0 58 58 3 ss ds [] := ⟨by decide, by decide, by decide, by decide, by decide, by decide, by decide, by decide, by decide, by decide, hs', hd', bs, bd, rfl, by decide⟩
  have g4 : good4 0 0 3 1 ss ds [] := ⟨by decide, by decide, by decide, by decide, by decide, by decide, by decide, by decide, hs', hd', bs, bd, rfl, by decide⟩
  have a6 := asI6_at (cl := 0) (la := 0) (nx := 58) (pr := 58) (ho := 3) (ss := ss) (ds := ds) (cs := []) (len := 0) hs' hd' rfl
  have a4 := asI4_at (tos := 0) (id := 0) (df := false) (ttl := 3) (pr := 1) (ss := ss) (ds := ds) (cs := []) (len := 0) hs' hd' rfl
  simp only [B8vc, B8vn, List.cons_append, List.nil_append] at a6 a4
  have eqS : eqV ((ss : List Int).map (Value.int .u8)) (z16.map (Value.int .u8)) = decide (ss = z16) := eqV_ints (by rw [hs']; rfl)
  have pkS := pairOk16 hs' (show z16.length = 16 from rfl)
  simp only [z16, List.map_cons, List.map_nil] at eqS pkS
  have t1 : ss.take 16 = ss := List.take_of_length_le (by omega)
  have t2 : ds.take 16 = ds := List.take_of_length_le (by omega)
  have ne1 : (e != 0) = true := by simp [ne]
  subst hre
  rw [pvCall_own (fn := Try.f12) rfl Try.func12 rfl (by decide) rfl rfl (by simp)]
  have hP : w6V 0 0 58 58 3 ss ds [] M = ewC P := hP0
  have h4 : (∃ e0, w4V 0 0 false 3 1 ss ds [] M = ewE e0) ∨ ∃ W0, w4V 0 0 false 3 1 ss ds [] M = ewC W0 := by
    unfold w4V
    split
    · exact .inl ⟨_, rfl⟩
    split
    · exact .inl ⟨_, rfl⟩
    split
    · exact .inl ⟨_, rfl⟩
    · exact .inr ⟨_, rfl⟩
  rcases h4 with ⟨e0, h4⟩ | ⟨W0, h4⟩
  · simp -implicitDefEqProofs [h4, hP, u1, l8, l9, w1, w2, w3, p1, p2, hgm, g6, g4, a6, a4, eqS, pkS, hge, hW, hMb, hV, hE, hPb, echA, fARead, fAWrite, fW4, fW6, fAEcho, fABack1, fKnown37, ewC, ewE, splice, B8vc, B8vn, asB8_nil'', asB8_cons'', Nat.testBit_eq_decide_div_mod_eq, hs, hd, t1, t2, B8t16 hs, B8d16 hs, B8t16 hd, B8d16 hd, B8t33 hs, B8t17 hd, B8d32 hs, B8d32 hd, B8t32 hs, B8d33 hs, B8d17 hd, B8d34 hs, B8d18 hd, B8t34 hs, B8t18 hd, -B8_append, ne, ne1]
  · simp -implicitDefEqProofs [h4, hP, u1, l8, l9, w1, w2, w3, p1, p2, hgm, g6, g4, a6, a4, eqS, pkS, hge, hW, hMb, hV, hE, hPb, echA, fARead, fAWrite, fW4, fW6, fAEcho, fABack1, fKnown37, ewC, ewE, splice, B8vc, B8vn, asB8_nil'', asB8_cons'', Nat.testBit_eq_decide_div_mod_eq, hs, hd, t1, t2, B8t16 hs, B8d16 hs, B8t16 hd, B8d16 hd, B8t33 hs, B8t17 hd, B8d32 hs, B8d32 hd, B8t32 hs, B8d33 hs, B8d17 hd, B8d34 hs, B8d18 hd, B8t34 hs, B8t18 hd, -B8_append, ne, ne1]
set_option maxHeartbeats 32000000 in
theorem aback_s_ms (ss ds : List Int) (hs : ss.length = 16) (hd : ds.length = 16) (re : Bool) (id nu : Int) (ps : List Int) (xn : Bool) (xc : Option Nat) (M P : List Int) (hW : ewV true ss ds re id nu ps = ewC M) (hMl : M.length = 8 + ps.length) (hMb : bytesB M = true) (hV : ecV true ss ds M = (.tup [echA re id nu (.own 0 0 0 ps.length 1 (.whole 5)), .v (.int .i64 0)], [B8 ps])) (hP0 : pk3 true ss ds M = ewC P) (hPl : P.length ≤ 1500) (hPb : bytesB P = true) (e : Int) (ne : ¬ e = 0) (hE : ekV P = ewE e) (hre : re = false) (mS : manyB true ss = true) (h1 : ps.length ≤ 1400) (hge : goodE id nu ss ds ps ps.length) : (pvCall Try.prog KAB Dm 100000 1 0 12 [.v (.bool true), .agg (B8 ss), .agg (B8 ds), echA re id nu (.sl xn (B8 ps) ps.length xc)] (fun _ => none)).map (·.1) = some (.v (.bool true)) := by
  have hge1 := hge
  obtain ⟨_, _, hs', hd', hz, bs, bd, _⟩ := hge1
  have u1 : ¬ (1400 : Int) < (ps.length : Int) := by omega
  have l8 : ps.take ps.length = ps := List.take_length
  have l9 : ps.length ≤ 9223372036854775807 := by omega
  have w1 : M.length ≤ 500000 := by omega
  have w2 : M.take M.length = M := List.take_length
  have w3 : M.length ≤ 9223372036854775807 := by omega
  have p1 : P.length ≤ 500000 := by omega
  have p2 : P.take P.length = P := List.take_length
  have hgm : goodM ss ds M M.length := ⟨rfl, w1, hs', hd', hMb, bs, bd⟩
  have g6 : good6 0 0 58 58 3 ss ds [] := ⟨by decide, by decide, by decide, by decide, by decide, by decide, by decide, by decide, by decide, by decide, hs', hd', bs, bd, rfl, by decide⟩
  have g4 : good4 0 0 3 1 ss ds [] := ⟨by decide, by decide, by decide, by decide, by decide, by decide, by decide, by decide, hs', hd', bs, bd, rfl, by decide⟩
  have a6 := asI6_at (cl := 0) (la := 0) (nx := 58) (pr := 58) (ho := 3) (ss := ss) (ds := ds) (cs := []) (len := 0) hs' hd' rfl
  have a4 := asI4_at (tos := 0) (id := 0) (df := false) (ttl := 3) (pr := 1) (ss := ss) (ds := ds) (cs := []) (len := 0) hs' hd' rfl
  simp only [B8vc, B8vn, List.cons_append, List.nil_append] at a6 a4
  have eqS : eqV ((ss : List Int).map (Value.int .u8)) (z16.map (Value.int .u8)) = decide (ss = z16) := eqV_ints (by rw [hs']; rfl)
  have pkS := pairOk16 hs' (show z16.length = 16 from rfl)
  simp only [z16, List.map_cons, List.map_nil] at eqS pkS
  have t1 : ss.take 16 = ss := List.take_of_length_le (by omega)
  have t2 : ds.take 16 = ds := List.take_of_length_le (by omega)
  have ne1 : (e != 0) = true := by simp [ne]
  subst hre
  rw [pvCall_own (fn := Try.f12) rfl Try.func12 rfl (by decide) rfl rfl (by simp)]
  have hP : w6V 0 0 58 58 3 ss ds [] M = ewC P := hP0
  have h4 : (∃ e0, w4V 0 0 false 3 1 ss ds [] M = ewE e0) ∨ ∃ W0, w4V 0 0 false 3 1 ss ds [] M = ewC W0 := by
    unfold w4V
    split
    · exact .inl ⟨_, rfl⟩
    split
    · exact .inl ⟨_, rfl⟩
    split
    · exact .inl ⟨_, rfl⟩
    · exact .inr ⟨_, rfl⟩
  rcases h4 with ⟨e0, h4⟩ | ⟨W0, h4⟩
  · simp -implicitDefEqProofs [h4, hP, u1, l8, l9, w1, w2, w3, p1, p2, hgm, g6, g4, a6, a4, eqS, pkS, hge, hW, hMb, hV, hE, hPb, echA, fARead, fAWrite, fW4, fW6, fAEcho, fABack1, fKnown37, ewC, ewE, splice, B8vc, B8vn, asB8_nil'', asB8_cons'', Nat.testBit_eq_decide_div_mod_eq, hs, hd, t1, t2, B8t16 hs, B8d16 hs, B8t16 hd, B8d16 hd, B8t33 hs, B8t17 hd, B8d32 hs, B8d32 hd, B8t32 hs, B8d33 hs, B8d17 hd, B8d34 hs, B8d18 hd, B8t34 hs, B8t18 hd, -B8_append, mS, ne, ne1]
  · simp -implicitDefEqProofs [h4, hP, u1, l8, l9, w1, w2, w3, p1, p2, hgm, g6, g4, a6, a4, eqS, pkS, hge, hW, hMb, hV, hE, hPb, echA, fARead, fAWrite, fW4, fW6, fAEcho, fABack1, fKnown37, ewC, ewE, splice, B8vc, B8vn, asB8_nil'', asB8_cons'', Nat.testBit_eq_decide_div_mod_eq, hs, hd, t1, t2, B8t16 hs, B8d16 hs, B8t16 hd, B8d16 hd, B8t33 hs, B8t17 hd, B8d32 hs, B8d32 hd, B8t32 hs, B8d33 hs, B8d17 hd, B8d34 hs, B8d18 hd, B8t34 hs, B8t18 hd, -B8_append, mS, ne, ne1]
set_option maxHeartbeats 32000000 in
theorem aback_s_md (ss ds : List Int) (hs : ss.length = 16) (hd : ds.length = 16) (re : Bool) (id nu : Int) (ps : List Int) (xn : Bool) (xc : Option Nat) (M P : List Int) (hW : ewV true ss ds re id nu ps = ewC M) (hMl : M.length = 8 + ps.length) (hMb : bytesB M = true) (hV : ecV true ss ds M = (.tup [echA re id nu (.own 0 0 0 ps.length 1 (.whole 5)), .v (.int .i64 0)], [B8 ps])) (hP0 : pk3 true ss ds M = ewC P) (hPl : P.length ≤ 1500) (hPb : bytesB P = true) (e : Int) (ne : ¬ e = 0) (hE : ekV P = ewE e) (hre : re = false) (mS : manyB true ss = false) (mD : manyB true ds = true) (h1 : ps.length ≤ 1400) (hge : goodE id nu ss ds ps ps.length) : (pvCall Try.prog KAB Dm 100000 1 0 12 [.v (.bool true), .agg (B8 ss), .agg (B8 ds), echA re id nu (.sl xn (B8 ps) ps.length xc)] (fun _ => none)).map (·.1) = some (.v (.bool true)) := by
  have hge1 := hge
  obtain ⟨_, _, hs', hd', hz, bs, bd, _⟩ := hge1
  have u1 : ¬ (1400 : Int) < (ps.length : Int) := by omega
  have l8 : ps.take ps.length = ps := List.take_length
  have l9 : ps.length ≤ 9223372036854775807 := by omega
  have w1 : M.length ≤ 500000 := by omega
  have w2 : M.take M.length = M := List.take_length
  have w3 : M.length ≤ 9223372036854775807 := by omega
  have p1 : P.length ≤ 500000 := by omega
  have p2 : P.take P.length = P := List.take_length
  have hgm : goodM ss ds M M.length := ⟨rfl, w1, hs', hd', hMb, bs, bd⟩
  have g6 : good6 0 0 58 58 3 ss ds [] := ⟨by decide, by decide, by decide, by decide, by decide, by decide, by decide, by decide, by decide, by decide, hs', hd', bs, bd, rfl, by decide⟩
  have g4 : good4 0 0 3 1 ss ds [] := ⟨by decide, by decide, by decide, by decide, by decide, by decide, by decide, by decide, hs', hd', bs, bd, rfl, by decide⟩
  have a6 := asI6_at (cl := 0) (la := 0) (nx := 58) (pr := 58) (ho := 3) (ss := ss) (ds := ds) (cs := []) (len := 0) hs' hd' rfl
  have a4 := asI4_at (tos := 0) (id := 0) (df := false) (ttl := 3) (pr := 1) (ss := ss) (ds := ds) (cs := []) (len := 0) hs' hd' rfl
  simp only [B8vc, B8vn, List.cons_append, List.nil_append] at a6 a4
  have eqS : eqV ((ss : List Int).map (Value.int .u8)) (z16.map (Value.int .u8)) = decide (ss = z16) := eqV_ints (by rw [hs']; rfl)
  have pkS := pairOk16 hs' (show z16.length = 16 from rfl)
  simp only [z16, List.map_cons, List.map_nil] at eqS pkS
  have t1 : ss.take 16 = ss := List.take_of_length_le (by omega)
  have t2 : ds.take 16 = ds := List.take_of_length_le (by omega)
  have ne1 : (e != 0) = true := by simp [ne]
  subst hre
  rw [pvCall_own (fn := Try.f12) rfl Try.func12 rfl (by decide) rfl rfl (by simp)]
  have hP : w6V 0 0 58 58 3 ss ds [] M = ewC P := hP0
  have h4 : (∃ e0, w4V 0 0 false 3 1 ss ds [] M = ewE e0) ∨ ∃ W0, w4V 0 0 false 3 1 ss ds [] M = ewC W0 := by
    unfold w4V
    split
    · exact .inl ⟨_, rfl⟩
    split
    · exact .inl ⟨_, rfl⟩
    split
    · exact .inl ⟨_, rfl⟩
    · exact .inr ⟨_, rfl⟩
  rcases h4 with ⟨e0, h4⟩ | ⟨W0, h4⟩
  · simp -implicitDefEqProofs [h4, hP, u1, l8, l9, w1, w2, w3, p1, p2, hgm, g6, g4, a6, a4, eqS, pkS, hge, hW, hMb, hV, hE, hPb, echA, fARead, fAWrite, fW4, fW6, fAEcho, fABack1, fKnown37, ewC, ewE, splice, B8vc, B8vn, asB8_nil'', asB8_cons'', Nat.testBit_eq_decide_div_mod_eq, hs, hd, t1, t2, B8t16 hs, B8d16 hs, B8t16 hd, B8d16 hd, B8t33 hs, B8t17 hd, B8d32 hs, B8d32 hd, B8t32 hs, B8d33 hs, B8d17 hd, B8d34 hs, B8d18 hd, B8t34 hs, B8t18 hd, -B8_append, mS, mD, ne, ne1]
  · simp -implicitDefEqProofs [h4, hP, u1, l8, l9, w1, w2, w3, p1, p2, hgm, g6, g4, a6, a4, eqS, pkS, hge, hW, hMb, hV, hE, hPb, echA, fARead, fAWrite, fW4, fW6, fAEcho, fABack1, fKnown37, ewC, ewE, splice, B8vc, B8vn, asB8_nil'', asB8_cons'', Nat.testBit_eq_decide_div_mod_eq, hs, hd, t1, t2, B8t16 hs, B8d16 hs, B8t16 hd, B8d16 hd, B8t33 hs, B8t17 hd, B8d32 hs, B8d32 hd, B8t32 hs, B8d33 hs, B8d17 hd, B8d34 hs, B8d18 hd, B8t34 hs, B8t18 hd, -B8_append, mS, mD, ne, ne1]
set_option maxHeartbeats 32000000 in
theorem aback_s_z (ss ds : List Int) (hs : ss.length = 16) (hd : ds.length = 16) (re : Bool) (id nu : Int) (ps : List Int) (xn : Bool) (xc : Option Nat) (M P : List Int) (hW : ewV true ss ds re id nu ps = ewC M) (hMl : M.length = 8 + ps.length) (hMb : bytesB M = true) (hV : ecV true ss ds M = (.tup [echA re id nu (.own 0 0 0 ps.length 1 (.whole 5)), .v (.int .i64 0)], [B8 ps])) (hP0 : pk3 true ss ds M = ewC P) (hPl : P.length ≤ 1500) (hPb : bytesB P = true) (e : Int) (ne : ¬ e = 0) (hE : ekV P = ewE e) (hre : re = false) (mS : manyB true ss = false) (mD : manyB true ds = false) (hz0 : ss = z16) (h1 : ps.length ≤ 1400) (hge : goodE id nu ss ds ps ps.length) : (pvCall Try.prog KAB Dm 100000 1 0 12 [.v (.bool true), .agg (B8 ss), .agg (B8 ds), echA re id nu (.sl xn (B8 ps) ps.length xc)] (fun _ => none)).map (·.1) = some (.v (.bool true)) := by
  have hge1 := hge
  obtain ⟨_, _, hs', hd', hz, bs, bd, _⟩ := hge1
  have u1 : ¬ (1400 : Int) < (ps.length : Int) := by omega
  have l8 : ps.take ps.length = ps := List.take_length
  have l9 : ps.length ≤ 9223372036854775807 := by omega
  have w1 : M.length ≤ 500000 := by omega
  have w2 : M.take M.length = M := List.take_length
  have w3 : M.length ≤ 9223372036854775807 := by omega
  have p1 : P.length ≤ 500000 := by omega
  have p2 : P.take P.length = P := List.take_length
  have hgm : goodM ss ds M M.length := ⟨rfl, w1, hs', hd', hMb, bs, bd⟩
  have g6 : good6 0 0 58 58 3 ss ds [] := ⟨by decide, by decide, by decide, by decide, by decide, by decide, by decide, by decide, by decide, by decide, hs', hd', bs, bd, rfl, by decide⟩
  have g4 : good4 0 0 3 1 ss ds [] := ⟨by decide, by decide, by decide, by decide, by decide, by decide, by decide, by decide, hs', hd', bs, bd, rfl, by decide⟩
  have a6 := asI6_at (cl := 0) (la := 0) (nx := 58) (pr := 58) (ho := 3) (ss := ss) (ds := ds) (cs := []) (len := 0) hs' hd' rfl
  have a4 := asI4_at (tos := 0) (id := 0) (df := false) (ttl := 3) (pr := 1) (ss := ss) (ds := ds) (cs := []) (len := 0) hs' hd' rfl
  simp only [B8vc, B8vn, List.cons_append, List.nil_append] at a6 a4
  have eqS : eqV ((ss : List Int).map (Value.int .u8)) (z16.map (Value.int .u8)) = decide (ss = z16) := eqV_ints (by rw [hs']; rfl)
  have pkS := pairOk16 hs' (show z16.length = 16 from rfl)
  simp only [z16, List.map_cons, List.map_nil] at eqS pkS
  have t1 : ss.take 16 = ss := List.take_of_length_le (by omega)
  have t2 : ds.take 16 = ds := List.take_of_length_le (by omega)
  have hz1 : (ss = z16) = True := by simp only [hz0]
  have hzl : (ss = [0, 0, 0, 0, 0, 0, 0, 0, 0, 0, 0, 0, 0, 0, 0, 0]) = True := hz1
  have ne1 : (e != 0) = true := by simp [ne]
  subst hre
  rw [pvCall_own (fn := Try.f12) rfl Try.func12 rfl (by decide) rfl rfl (by simp)]
  have hP : w6V 0 0 58 58 3 ss ds [] M = ewC P := hP0
  have h4 : (∃ e0, w4V 0 0 false 3 1 ss ds [] M = ewE e0) ∨ ∃ W0, w4V 0 0 false 3 1 ss ds [] M = ewC W0 := by
    unfold w4V
    split
    · exact .inl ⟨_, rfl⟩
    split
    · exact .inl ⟨_, rfl⟩
    split
    · exact .inl ⟨_, rfl⟩
    · exact .inr ⟨_, rfl⟩
  rcases h4 with ⟨e0, h4⟩ | ⟨W0, h4⟩
  · simp -implicitDefEqProofs [h4, hP, u1, l8, l9, w1, w2, w3, p1, p2, hgm, g6, g4, a6, a4, eqS, pkS, hge, hW, hMb, hV, hE, hPb, echA, fARead, fAWrite, fW4, fW6, fAEcho, fABack1, fKnown37, ewC, ewE, splice, B8vc, B8vn, asB8_nil'', asB8_cons'', Nat.testBit_eq_decide_div_mod_eq, hs, hd, t1, t2, B8t16 hs, B8d16 hs, B8t16 hd, B8d16 hd, B8t33 hs, B8t17 hd, B8d32 hs, B8d32 hd, B8t32 hs, B8d33 hs, B8d17 hd, B8d34 hs, B8d18 hd, B8t34 hs, B8t18 hd, -B8_append, mS, mD, hz1, hzl, ne, ne1]
  · simp -implicitDefEqProofs [h4, hP, u1, l8, l9, w1, w2, w3, p1, p2, hgm, g6, g4, a6, a4, eqS, pkS, hge, hW, hMb, hV, hE, hPb, echA, fARead, fAWrite, fW4, fW6, fAEcho, fABack1, fKnown37, ewC, ewE, splice, B8vc, B8vn, asB8_nil'', asB8_cons'', Nat.testBit_eq_decide_div_mod_eq, hs, hd, t1, t2, B8t16 hs, B8d16 hs, B8t16 hd, B8d16 hd, B8t33 hs, B8t17 hd, B8d32 hs, B8d32 hd, B8t32 hs, B8d33 hs, B8d17 hd, B8d34 hs, B8d18 hd, B8t34 hs, B8t18 hd, -B8_append, mS, mD, hz1, hzl, ne, ne1]
set_option maxHeartbeats 32000000 in
theorem aback_s_ok (ss ds : List Int) (hs : ss.length = 16) (hd : ds.length = 16) (re : Bool) (id nu : Int) (ps : List Int) (xn : Bool) (xc : Option Nat) (M P : List Int) (hW : ewV true ss ds re id nu ps = ewC M) (hMl : M.length = 8 + ps.length) (hMb : bytesB M = true) (hV : ecV true ss ds M = (.tup [echA re id nu (.own 0 0 0 ps.length 1 (.whole 5)), .v (.int .i64 0)], [B8 ps])) (hP0 : pk3 true ss ds M = ewC P) (hPl : P.length ≤ 1500) (hPb : bytesB P = true) (Q : List Int) (hE : ekV P = ewC Q) (hQl : Q.length = P.length) (hQb : bytesB Q = true) (hE2 : ekV Q = ewE 10) (hre : re = false) (mS : manyB true ss = false) (mD : manyB true ds = false) (hz0 : ¬ ss = z16) (h1 : ps.length ≤ 1400) (hge : goodE id nu ss ds ps ps.length) : (pvCall Try.prog KAB Dm 100000 1 0 12 [.v (.bool true), .agg (B8 ss), .agg (B8 ds), echA re id nu (.sl xn (B8 ps) ps.length xc)] (fun _ => none)).map (·.1) = some (.v (.bool true)) := by
  have hge1 := hge
  obtain ⟨_, _, hs', hd', hz, bs, bd, _⟩ := hge1
  have u1 : ¬ (1400 : Int) < (ps.length : Int) := by omega
  have l8 : ps.take ps.length = ps := List.take_length
  have l9 : ps.length ≤ 9223372036854775807 := by omega
  have w1 : M.length ≤ 500000 := by omega
  have w2 : M.take M.length = M := List.take_length
  have w3 : M.length ≤ 9223372036854775807 := by omega
  have p1 : P.length ≤ 500000 := by omega
  have p2 : P.take P.length = P := List.take_length
  have hgm : goodM ss ds M M.length := ⟨rfl, w1, hs', hd', hMb, bs, bd⟩
  have g6 : good6 0 0 58 58 3 ss ds [] := ⟨by decide, by decide, by decide, by decide, by decide, by decide, by decide, by decide, by decide, by decide, hs', hd', bs, bd, rfl, by decide⟩
  have g4 : good4 0 0 3 1 ss ds [] := ⟨by decide, by decide, by decide, by decide, by decide, by decide, by decide, by decide, hs', hd', bs, bd, rfl, by decide⟩
  have a6 := asI6_at (cl := 0) (la := 0) (nx := 58) (pr := 58) (ho := 3) (ss := ss) (ds := ds) (cs := []) (len := 0) hs' hd' rfl
  have a4 := asI4_at (tos := 0) (id := 0) (df := false) (ttl := 3) (pr := 1) (ss := ss) (ds := ds) (cs := []) (len := 0) hs' hd' rfl
  simp only [B8vc, B8vn, List.cons_append, List.nil_append] at a6 a4
  have eqS : eqV ((ss : List Int).map (Value.int .u8)) (z16.map (Value.int .u8)) = decide (ss = z16) := eqV_ints (by rw [hs']; rfl)
  have pkS := pairOk16 hs' (show z16.length = 16 from rfl)
  simp only [z16, List.map_cons, List.map_nil] at eqS pkS
  have t1 : ss.take 16 = ss := List.take_of_length_le (by omega)
  have t2 : ds.take 16 = ds := List.take_of_length_le (by omega)
  have hz1 : (ss = z16) = False := by simp only [hz0]
  have hzl : (ss = [0, 0, 0, 0, 0, 0, 0, 0, 0, 0, 0, 0, 0, 0, 0, 0]) = False := hz1
  have hq1 : Q.length ≤ 500000 := by omega
  have hq2 : Q.take Q.length = Q := List.take_length
  have hq3 : (Q.length : Int) = (P.length : Int) := by omega
  have hq4 : Q.take P.length = Q := by rw [← hQl]; exact hq2
  subst hre
  rw [pvCall_own (fn := Try.f12) rfl Try.func12 rfl (by decide) rfl rfl (by simp)]
  have hP : w6V 0 0 58 58 3 ss ds [] M = ewC P := hP0
  have h4 : (∃ e0, w4V 0 0 false 3 1 ss ds [] M = ewE e0) ∨ ∃ W0, w4V 0 0 false 3 1 ss ds [] M = ewC W0 := by
    unfold w4V
    split
    · exact .inl ⟨_, rfl⟩
    split
    · exact .inl ⟨_, rfl⟩
    split
    · exact .inl ⟨_, rfl⟩
    · exact .inr ⟨_, rfl⟩
  rcases h4 with ⟨e0, h4⟩ | ⟨W0, h4⟩
  · simp -implicitDefEqProofs [h4, hP, u1, l8, l9, w1, w2, w3, p1, p2, hgm, g6, g4, a6, a4, eqS, pkS, hge, hW, hMb, hV, hE, hPb, echA, fARead, fAWrite, fW4, fW6, fAEcho, fABack1, fKnown37, ewC, ewE, splice, B8vc, B8vn, asB8_nil'', asB8_cons'', Nat.testBit_eq_decide_div_mod_eq, hs, hd, t1, t2, B8t16 hs, B8d16 hs, B8t16 hd, B8d16 hd, B8t33 hs, B8t17 hd, B8d32 hs, B8d32 hd, B8t32 hs, B8d33 hs, B8d17 hd, B8d34 hs, B8d18 hd, B8t34 hs, B8t18 hd, -B8_append, mS, mD, hz1, hzl, hq1, hq2, hq3, hq4, hQl, hQb, hE2]
  · simp -implicitDefEqProofs [h4, hP, u1, l8, l9, w1, w2, w3, p1, p2, hgm, g6, g4, a6, a4, eqS, pkS, hge, hW, hMb, hV, hE, hPb, echA, fARead, fAWrite, fW4, fW6, fAEcho, fABack1, fKnown37, ewC, ewE, splice, B8vc, B8vn, asB8_nil'', asB8_cons'', Nat.testBit_eq_decide_div_mod_eq, hs, hd, t1, t2, B8t16 hs, B8d16 hs, B8t16 hd, B8d16 hd, B8t33 hs, B8t17 hd, B8d32 hs, B8d32 hd, B8t32 hs, B8d33 hs, B8d17 hd, B8d34 hs, B8d18 hd, B8t34 hs, B8t18 hd, -B8_append, mS, mD, hz1, hzl, hq1, hq2, hq3, hq4, hQl, hQb, hE2]
set_option maxHeartbeats 32000000 in
theorem aback_f_re (x0 x1 x2 x3 x4 x5 x6 x7 x8 x9 x10 x11 x12 x13 x14 x15 y0 y1 y2 y3 y4 y5 y6 y7 y8 y9 y10 y11 y12 y13 y14 y15 : Int) (re : Bool) (id nu : Int) (ps : List Int) (xn : Bool) (xc : Option Nat) (M P : List Int) (hW : ewV false [x0, x1, x2, x3, 0, 0, 0, 0, 0, 0, 0, 0, 0, 0, 0, 0] [y0, y1, y2, y3, 0, 0, 0, 0, 0, 0, 0, 0, 0, 0, 0, 0] re id nu ps = ewC M) (hMl : M.length = 8 + ps.length) (hMb : bytesB M = true) (hV : ecV false [x0, x1, x2, x3, 0, 0, 0, 0, 0, 0, 0, 0, 0, 0, 0, 0] [y0, y1, y2, y3, 0, 0, 0, 0, 0, 0, 0, 0, 0, 0, 0, 0] M = (.tup [echA re id nu (.own 0 0 0 ps.length 1 (.whole 5)), .v (.int .i64 0)], [B8 ps])) (hP0 : pk3 false [x0, x1, x2, x3, 0, 0, 0, 0, 0, 0, 0, 0, 0, 0, 0, 0] [y0, y1, y2, y3, 0, 0, 0, 0, 0, 0, 0, 0, 0, 0, 0, 0] M = ewC P) (hPl : P.length ≤ 1500) (hPb : bytesB P = true) (e : Int) (ne : ¬ e = 0) (hE : ekV P = ewE e) (hre : re = true) (h1 : ps.length ≤ 1400) (hge : goodE id nu [x0, x1, x2, x3, 0, 0, 0, 0, 0, 0, 0, 0, 0, 0, 0, 0] [y0, y1, y2, y3, 0, 0, 0, 0, 0, 0, 0, 0, 0, 0, 0, 0] ps ps.length) : (pvCall Try.prog KAB Dm 100000 1 0 12 [.v (.bool false), .agg (B8 [x0, x1, x2, x3, x4, x5, x6, x7, x8, x9, x10, x11, x12, x13, x14, x15]), .agg (B8 [y0, y1, y2, y3, y4, y5, y6, y7, y8, y9, y10, y11, y12, y13, y14, y15]), echA re id nu (.sl xn (B8 ps) ps.length xc)] (fun _ => none)).map (·.1) = some (.v (.bool true)) := by
  have hge1 := hge
  obtain ⟨_, _, hs', hd', hz, bs, bd, _⟩ := hge1
  have u1 : ¬ (1400 : Int) < (ps.length : Int) := by omega
  have l8 : ps.take ps.length = ps := List.take_length
  have l9 : ps.length ≤ 9223372036854775807 := by omega
  have w1 : M.length ≤ 500000 := by omega
  have w2 : M.take M.length = M := List.take_length
  have w3 : M.length ≤ 9223372036854775807 := by omega
  have p1 : P.length ≤ 500000 := by omega
  have p2 : P.take P.length = P := List.take_length
  have hgm : goodM [x0, x1, x2, x3, 0, 0, 0, 0, 0, 0, 0, 0, 0, 0, 0, 0] [y0, y1, y2, y3, 0, 0, 0, 0, 0, 0, 0, 0, 0, 0, 0, 0] M M.length := ⟨rfl, w1, hs', hd', hMb, bs, bd⟩
  have g6 : good6 0 0 58 58 3 [x0, x1, x2, x3, 0, 0, 0, 0, 0, 0, 0, 0, 0, 0, 0, 0] [y0, y1, y2, y3, 0, 0, 0, 0, 0, 0, 0, 0, 0, 0, 0, 0] [] := ⟨by decide, by decide, by decide, by decide, by decide, by decide, by decide, by decide, by decide, by decide, hs', hd', bs, bd, rfl, by decide⟩
  have g4 : good4 0 0 3 1 [x0, x1, x2, x3, 0, 0, 0, 0, 0, 0, 0, 0, 0, 0, 0, 0] [y0, y1, y2, y3, 0, 0, 0, 0, 0, 0, 0, 0, 0, 0, 0, 0] [] := ⟨by decide, by decide, by decide, by decide, by decide, by decide, by decide, by decide, hs', hd', bs, bd, rfl, by decide⟩
  have a6 := asI6_at (cl := 0) (la := 0) (nx := 58) (pr := 58) (ho := 3) (ss := [x0, x1, x2, x3, 0, 0, 0, 0, 0, 0, 0, 0, 0, 0, 0, 0]) (ds := [y0, y1, y2, y3, 0, 0, 0, 0, 0, 0, 0, 0, 0, 0, 0, 0]) (cs := []) (len := 0) hs' hd' rfl
  have a4 := asI4_at (tos := 0) (id := 0) (df := false) (ttl := 3) (pr := 1) (ss := [x0, x1, x2, x3, 0, 0, 0, 0, 0, 0, 0, 0, 0, 0, 0, 0]) (ds := [y0, y1, y2, y3, 0, 0, 0, 0, 0, 0, 0, 0, 0, 0, 0, 0]) (cs := []) (len := 0) hs' hd' rfl
  simp only [B8vc, B8vn, List.cons_append, List.nil_append] at a6 a4
  have eqS : eqV (([x0, x1, x2, x3, 0, 0, 0, 0, 0, 0, 0, 0, 0, 0, 0, 0] : List Int).map (Value.int .u8)) (z16.map (Value.int .u8)) = decide ([x0, x1, x2, x3, 0, 0, 0, 0, 0, 0, 0, 0, 0, 0, 0, 0] = z16) := eqV_ints (by rw [hs']; rfl)
  have pkS := pairOk16 hs' (show z16.length = 16 from rfl)
  simp only [z16, List.map_cons, List.map_nil] at eqS pkS
  have ne1 : (e != 0) = true := by simp [ne]
  subst hre
  rw [pvCall_own (fn := Try.f12) rfl Try.func12 rfl (by decide) rfl rfl (by simp)]
  have hP : w4V 0 0 false 3 1 [x0, x1, x2, x3, 0, 0, 0, 0, 0, 0, 0, 0, 0, 0, 0, 0] [y0, y1, y2, y3, 0, 0, 0, 0, 0, 0, 0, 0, 0, 0, 0, 0] [] M = ewC P := hP0
  simp -implicitDefEqProofs [hP, u1, l8, l9, w1, w2, w3, p1, p2, hgm, g6, g4, a6, a4, eqS, pkS, hge, hW, hMb, hV, hE, hPb, echA, fARead, fAWrite, fW4, fW6, fAEcho, fABack1, fKnown37, ewC, ewE, splice, B8vc, B8vn, asB8_nil'', asB8_cons'', Nat.testBit_eq_decide_div_mod_eq, ne, ne1]
set_option maxHeartbeats 32000000 in
theorem aback_f_ms (x0 x1 x2 x3 x4 x5 x6 x7 x8 x9 x10 x11 x12 x13 x14 x15 y0 y1 y2 y3 y4 y5 y6 y7 y8 y9 y10 y11 y12 y13 y14 y15 : Int) (re : Bool) (id nu : Int) (ps : List Int) (xn : Bool) (xc : Option Nat) (M P : List Int) (hW : ewV false [x0, x1, x2, x3, 0, 0, 0, 0, 0, 0, 0, 0, 0, 0, 0, 0] [y0, y1, y2, y3, 0, 0, 0, 0, 0, 0, 0, 0, 0, 0, 0, 0] re id nu ps = ewC M) (hMl : M.length = 8 + ps.length) (hMb : bytesB M = true) (hV : ecV false [x0, x1, x2, x3, 0, 0, 0, 0, 0, 0, 0, 0, 0, 0, 0, 0] [y0, y1, y2, y3, 0, 0, 0, 0, 0, 0, 0, 0, 0, 0, 0, 0] M = (.tup [echA re id nu (.own 0 0 0 ps.length 1 (.whole 5)), .v (.int .i64 0)], [B8 ps])) (hP0 : pk3 false [x0, x1, x2, x3, 0, 0, 0, 0, 0, 0, 0, 0, 0, 0, 0, 0] [y0, y1, y2, y3, 0, 0, 0, 0, 0, 0, 0, 0, 0, 0, 0, 0] M = ewC P) (hPl : P.length ≤ 1500) (hPb : bytesB P = true) (e : Int) (ne : ¬ e = 0) (hE : ekV P = ewE e) (hre : re = false) (mS : manyB false [x0, x1, x2, x3, 0, 0, 0, 0, 0, 0, 0, 0, 0, 0, 0, 0] = true) (h1 : ps.length ≤ 1400) (hge : goodE id nu [x0, x1, x2, x3, 0, 0, 0, 0, 0, 0, 0, 0, 0, 0, 0, 0] [y0, y1, y2, y3, 0, 0, 0, 0, 0, 0, 0, 0, 0, 0, 0, 0] ps ps.length) : (pvCall Try.prog KAB Dm 100000 1 0 12 [.v (.bool false), .agg (B8 [x0, x1, x2, x3, x4, x5, x6, x7, x8, x9, x10, x11, x12, x13, x14, x15]), .agg (B8 [y0, y1, y2, y3, y4, y5, y6, y7, y8, y9, y10, y11, y12, y13, y14, y15]), echA re id nu (.sl xn (B8 ps) ps.length xc)] (fun _ => none)).map (·.1) = some (.v (.bool true)) := by
  have hge1 := hge
  obtain ⟨_, _, hs', hd', hz, bs, bd, _⟩ := hge1
  have u1 : ¬ (1400 : Int) < (ps.length : Int) := by omega
  have l8 : ps.take ps.length = ps := List.take_length
  have l9 : ps.length ≤ 9223372036854775807 := by omega
  have w1 : M.length ≤ 500000 := by omega
  have w2 : M.take M.length = M := List.take_length
  have w3 : M.length ≤ 9223372036854775807 := by omega
  have p1 : P.length ≤ 500000 := by omega
  have p2 : P.take P.length = P := List.take_length
  have hgm : goodM [x0, x1, x2, x3, 0, 0, 0, 0, 0, 0, 0, 0, 0, 0, 0, 0] [y0, y1, y2, y3, 0, 0, 0, 0, 0, 0, 0, 0, 0, 0, 0, 0] M M.length := ⟨rfl, w1, hs', hd', hMb, bs, bd⟩
  have g6 : good6 0 0 58 58 3 [x0, x1, x2, x3, 0, 0, 0, 0, 0, 0, 0, 0, 0, 0, 0, 0] [y0, y1, y2, y3, 0, 0, 0, 0, 0, 0, 0, 0, 0, 0, 0, 0] [] := ⟨by decide, by decide, by decide, by decide, by decide, by decide, by decide, by decide, by decide, by decide, hs', hd', bs, bd, rfl, by decide⟩
  have g4 : good4 0 0 3 1 [x0, x1, x2, x3, 0, 0, 0, 0, 0, 0, 0, 0, 0, 0, 0, 0] [y0, y1, y2, y3, 0, 0, 0, 0, 0, 0, 0, 0, 0, 0, 0, 0] [] := ⟨by decide, by decide, by decide, by decide, by decide, by decide, by decide, by decide, hs', hd', bs, bd, rfl, by decide⟩
  have a6 := asI6_at (cl := 0) (la := 0) (nx := 58) (pr := 58) (ho := 3) (ss := [x0, x1, x2, x3, 0, 0, 0, 0, 0, 0, 0, 0, 0, 0, 0, 0]) (ds := [y0, y1, y2, y3, 0, 0, 0, 0, 0, 0, 0, 0, 0, 0, 0, 0]) (cs := []) (len := 0) hs' hd' rfl
  have a4 := asI4_at (tos := 0) (id := 0) (df := false) (ttl := 3) (pr := 1) (ss := [x0, x1, x2, x3, 0, 0, 0, 0, 0, 0, 0, 0, 0, 0, 0, 0]) (ds := [y0, y1, y2, y3, 0, 0, 0, 0, 0, 0, 0, 0, 0, 0, 0, 0]) (cs := []) (len := 0) hs' hd' rfl
  simp only [B8vc, B8vn, List.cons_append, List.nil_append] at a6 a4
  have eqS : eqV (([x0, x1, x2, x3, 0, 0, 0, 0, 0, 0, 0, 0, 0, 0, 0, 0] : List Int).map (Value.int .u8)) (z16.map (Value.int .u8)) = decide ([x0, x1, x2, x3, 0, 0, 0, 0, 0, 0, 0, 0, 0, 0, 0, 0] = z16) := eqV_ints (by rw [hs']; rfl)
  have pkS := pairOk16 hs' (show z16.length = 16 from rfl)
  simp only [z16, List.map_cons, List.map_nil] at eqS pkS
  have ne1 : (e != 0) = true := by simp [ne]
  subst hre
  rw [pvCall_own (fn := Try.f12) rfl Try.func12 rfl (by decide) rfl rfl (by simp)]
  have hP : w4V 0 0 false 3 1 [x0, x1, x2, x3, 0, 0, 0, 0, 0, 0, 0, 0, 0, 0, 0, 0] [y0, y1, y2, y3, 0, 0, 0, 0, 0, 0, 0, 0, 0, 0, 0, 0] [] M = ewC P := hP0
  simp -implicitDefEqProofs [hP, u1, l8, l9, w1, w2, w3, p1, p2, hgm, g6, g4, a6, a4, eqS, pkS, hge, hW, hMb, hV, hE, hPb, echA, fARead, fAWrite, fW4, fW6, fAEcho, fABack1, fKnown37, ewC, ewE, splice, B8vc, B8vn, asB8_nil'', asB8_cons'', Nat.testBit_eq_decide_div_mod_eq, mS, ne, ne1]
set_option maxHeartbeats 32000000 in
theorem aback_f_md (x0 x1 x2 x3 x4 x5 x6 x7 x8 x9 x10 x11 x12 x13 x14 x15 y0 y1 y2 y3 y4 y5 y6 y7 y8 y9 y10 y11 y12 y13 y14 y15 : Int) (re : Bool) (id nu : Int) (ps : List Int) (xn : Bool) (xc : Option Nat) (M P : List Int) (hW : ewV false [x0, x1, x2, x3, 0, 0, 0, 0, 0, 0, 0, 0, 0, 0, 0, 0] [y0, y1, y2, y3, 0, 0, 0, 0, 0, 0, 0, 0, 0, 0, 0, 0] re id nu ps = ewC M) (hMl : M.length = 8 + ps.length) (hMb : bytesB M = true) (hV : ecV false [x0, x1, x2, x3, 0, 0, 0, 0, 0, 0, 0, 0, 0, 0, 0, 0] [y0, y1, y2, y3, 0, 0, 0, 0, 0, 0, 0, 0, 0, 0, 0, 0] M = (.tup [echA re id nu (.own 0 0 0 ps.length 1 (.whole 5)), .v (.int .i64 0)], [B8 ps])) (hP0 : pk3 false [x0, x1, x2, x3, 0, 0, 0, 0, 0, 0, 0, 0, 0, 0, 0, 0] [y0, y1, y2, y3, 0, 0, 0, 0, 0, 0, 0, 0, 0, 0, 0, 0] M = ewC P) (hPl : P.length ≤ 1500) (hPb : bytesB P = true) (e : Int) (ne : ¬ e = 0) (hE : ekV P = ewE e) (hre : re = false) (mS : manyB false [x0, x1, x2, x3, 0, 0, 0, 0, 0, 0, 0, 0, 0, 0, 0, 0] = false) (mD : manyB false [y0, y1, y2, y3, 0, 0, 0, 0, 0, 0, 0, 0, 0, 0, 0, 0] = true) (h1 : ps.length ≤ 1400) (hge : goodE id nu [x0, x1, x2, x3, 0, 0, 0, 0, 0, 0, 0, 0, 0, 0, 0, 0] [y0, y1, y2, y3, 0, 0, 0, 0, 0, 0, 0, 0, 0, 0, 0, 0] ps ps.length) : (pvCall Try.prog KAB Dm 100000 1 0 12 [.v (.bool false), .agg (B8 [x0, x1, x2, x3, x4, x5, x6, x7, x8, x9, x10, x11, x12, x13, x14, x15]), .agg (B8 [y0, y1, y2, y3, y4, y5, y6, y7, y8, y9, y10, y11, y12, y13, y14, y15]), echA re id nu (.sl xn (B8 ps) ps.length xc)] (fun _ => none)).map (·.1) = some (.v (.bool true)) := by
  have hge1 := hge
  obtain ⟨_, _, hs', hd', hz, bs, bd, _⟩ := hge1
  have u1 : ¬ (1400 : Int) < (ps.length : Int) := by omega
  have l8 : ps.take ps.length = ps := List.take_length
  have l9 : ps.length ≤ 9223372036854775807 := by omega
  have w1 : M.length ≤ 500000 := by omega
  have w2 : M.take M.length = M := List.take_length
  have w3 : M.length ≤ 9223372036854775807 := by omega
  have p1 : P.length ≤ 500000 := by omega
  have p2 : P.take P.length = P := List.take_length
  have hgm : goodM [x0, x1, x2, x3, 0, 0, 0, 0, 0, 0, 0, 0, 0, 0, 0, 0] [y0, y1, y2, y3, 0, 0, 0, 0, 0, 0, 0, 0, 0, 0, 0, 0] M M.length := ⟨rfl, w1, hs', hd', hMb, bs, bd⟩
  have g6 : good6 0 0 58 58 3 [x0, x1, x2, x3, 0, 0, 0, 0, 0, 0, 0, 0, 0, 0, 0, 0] [y0, y1, y2, y3, 0, 0, 0, 0, 0, 0, 0, 0, 0, 0, 0, 0] [] := ⟨by decide, by decide, by decide, by decide, by decide, by decide, by decide, by decide, by decide, by decide, hs', hd', bs, bd, rfl, by decide⟩
  have g4 : good4 0 0 3 1 [x0, x1, x2, x3, 0, 0, 0, 0, 0, 0, 0, 0, 0, 0, 0, 0] [y0, y1, y2, y3, 0, 0, 0, 0, 0, 0, 0, 0, 0, 0, 0, 0] [] := ⟨by decide, by decide, by decide, by decide, by decide, by decide, by decide, by decide, hs', hd', bs, bd, rfl, by decide⟩
  have a6 := asI6_at (cl := 0) (la := 0) (nx := 58) (pr := 58) (ho := 3) (ss := [x0, x1, x2, x3, 0, 0, 0, 0, 0, 0, 0, 0, 0, 0, 0, 0]) (ds := [y0, y1, y2, y3, 0, 0, 0, 0, 0, 0, 0, 0, 0, 0, 0, 0]) (cs := []) (len := 0) hs' hd' rfl
  have a4 := asI4_at (tos := 0) (id := 0) (df := false) (ttl := 3) (pr := 1) (ss := [x0, x1, x2, x3, 0, 0, 0, 0, 0, 0, 0, 0, 0, 0, 0, 0]) (ds := [y0, y1, y2, y3, 0, 0, 0, 0, 0, 0, 0, 0, 0, 0, 0, 0]) (cs := []) (len := 0) hs' hd' rfl
  simp only [B8vc, B8vn, List.cons_append, List.nil_append] at a6 a4
  have eqS : eqV (([x0, x1, x2, x3, 0, 0, 0, 0, 0, 0, 0, 0, 0, 0, 0, 0] : List Int).map (Value.int .u8)) (z16.map (Value.int .u8)) = decide ([x0, x1, x2, x3, 0, 0, 0, 0, 0, 0, 0, 0, 0, 0, 0, 0] = z16) := eqV_ints (by rw [hs']; rfl)
  have pkS := pairOk16 hs' (show z16.length = 16 from rfl)
  simp only [z16, List.map_cons, List.map_nil] at eqS pkS
  have ne1 : (e != 0) = true := by simp [ne]
  subst hre
  rw [pvCall_own (fn := Try.f12) rfl Try.func12 rfl (by decide) rfl rfl (by simp)]
  have hP : w4V 0 0 false 3 1 [x0, x1, x2, x3, 0, 0, 0, 0, 0, 0, 0, 0, 0, 0, 0, 0] [y0, y1, y2, y3, 0, 0, 0, 0, 0, 0, 0, 0, 0, 0, 0, 0] [] M = ewC P := hP0
  simp -implicitDefEqProofs [hP, u1, l8, l9, w1, w2, w3, p1, p2, hgm, g6, g4, a6, a4, eqS, pkS, hge, hW, hMb, hV, hE, hPb, echA, fARead, fAWrite, fW4, fW6, fAEcho, fABack1, fKnown37, ewC, ewE, splice, B8vc, B8vn, asB8_nil'', asB8_cons'', Nat.testBit_eq_decide_div_mod_eq, mS, mD, ne, ne1]
set_option maxHeartbeats 32000000 in
theorem aback_f_z (x0 x1 x2 x3 x4 x5 x6 x7 x8 x9 x10 x11 x12 x13 x14 x15 y0 y1 y2 y3 y4 y5 y6 y7 y8 y9 y10 y11 y12 y13 y14 y15 : Int) (re : Bool) (id nu : Int) (ps : List Int) (xn : Bool) (xc : Option Nat) (M P : List Int) (hW : ewV false [x0, x1, x2, x3, 0, 0, 0, 0, 0, 0, 0, 0, 0, 0, 0, 0] [y0, y1, y2, y3, 0, 0, 0, 0, 0, 0, 0, 0, 0, 0, 0, 0] re id nu ps = ewC M) (hMl : M.length = 8 + ps.length) (hMb : bytesB M = true) (hV : ecV false [x0, x1, x2, x3, 0, 0, 0, 0, 0, 0, 0, 0, 0, 0, 0, 0] [y0, y1, y2, y3, 0, 0, 0, 0, 0, 0, 0, 0, 0, 0, 0, 0] M = (.tup [echA re id nu (.own 0 0 0 ps.length 1 (.whole 5)), .v (.int .i64 0)], [B8 ps])) (hP0 : pk3 false [x0, x1, x2, x3, 0, 0, 0, 0, 0, 0, 0, 0, 0, 0, 0, 0] [y0, y1, y2, y3, 0, 0, 0, 0, 0, 0, 0, 0, 0, 0, 0, 0] M = ewC P) (hPl : P.length ≤ 1500) (hPb : bytesB P = true) (e : Int) (ne : ¬ e = 0) (hE : ekV P = ewE e) (hre : re = false) (mS : manyB false [x0, x1, x2, x3, 0, 0, 0, 0, 0, 0, 0, 0, 0, 0, 0, 0] = false) (mD : manyB false [y0, y1, y2, y3, 0, 0, 0, 0, 0, 0, 0, 0, 0, 0, 0, 0] = false) (hz0 : [x0, x1, x2, x3, 0, 0, 0, 0, 0, 0, 0, 0, 0, 0, 0, 0] = z16) (h1 : ps.length ≤ 1400) (hge : goodE id nu [x0, x1, x2, x3, 0, 0, 0, 0, 0, 0, 0, 0, 0, 0, 0, 0] [y0, y1, y2, y3, 0, 0, 0, 0, 0, 0, 0, 0, 0, 0, 0, 0] ps ps.length) : (pvCall Try.prog KAB Dm 100000 1 0 12 [.v (.bool false), .agg (B8 [x0, x1, x2, x3, x4, x5, x6, x7, x8, x9, x10, x11, x12, x13, x14, x15]), .agg (B8 [y0, y1, y2, y3, y4, y5, y6, y7, y8, y9, y10, y11, y12, y13, y14, y15]), echA re id nu (.sl xn (B8 ps) ps.length xc)] (fun _ => none)).map (·.1) = some (.v (.bool true)) := by
  have hge1 := hge
  obtain ⟨_, _, hs', hd', hz, bs, bd, _⟩ := hge1
  have u1 : ¬ (1400 : Int) < (ps.length : Int) := by omega
  have l8 : ps.take ps.length = ps := List.take_length
  have l9 : ps.length ≤ 9223372036854775807 := by omega
  have w1 : M.length ≤ 500000 := by omega
  have w2 : M.take M.length = M := List.take_length
  have w3 : M.length ≤ 9223372036854775807 := by omega
  have p1 : P.length ≤ 500000 := by omega
  have p2 : P.take P.length = P := List.take_length
  have hgm : goodM [x0, x1, x2, x3, 0, 0, 0, 0, 0, 0, 0, 0, 0, 0, 0, 0] [y0, y1, y2, y3, 0, 0, 0, 0, 0, 0, 0, 0, 0, 0, 0, 0] M M.length := ⟨rfl, w1, hs', hd', hMb, bs, bd⟩
  have g6 : good6 0 0 58 58 3 [x0, x1, x2, x3, 0, 0, 0, 0, 0, 0, 0, 0, 0, 0, 0, 0] [y0, y1, y2, y3, 0, 0, 0, 0, 0, 0, 0, 0, 0, 0, 0, 0] [] := ⟨by decide, by decide, by decide, by decide, by decide, by decide, by decide, by decide, by decide, by decide, hs', hd', bs, bd, rfl, by decide⟩
  have g4 : good4 0 0 3 1 [x0, x1, x2, x3, 0, 0, 0, 0, 0, 0, 0, 0, 0, 0, 0, 0] [y0, y1, y2, y3, 0, 0, 0, 0, 0, 0, 0, 0, 0, 0, 0, 0] [] := ⟨by decide, by decide, by decide, by decide, by decide, by decide, by decide, by decide, hs', hd', bs, bd, rfl, by decide⟩
  have a6 := asI6_at (cl := 0) (la := 0) (nx := 58) (pr := 58) (ho := 3) (ss := [x0, x1, x2, x3, 0, 0, 0, 0, 0, 0, 0, 0, 0, 0, 0, 0]) (ds := [y0, y1, y2, y3, 0, 0, 0, 0, 0, 0, 0, 0, 0, 0, 0, 0]) (cs := []) (len := 0) hs' hd' rfl
  have a4 := asI4_at (tos := 0) (id := 0) (df := false) (ttl := 3) (pr := 1) (ss := [x0, x1, x2, x3, 0, 0, 0, 0, 0, 0, 0, 0, 0, 0, 0, 0]) (ds := [y0, y1, y2, y3, 0, 0, 0, 0, 0, 0, 0, 0, 0, 0, 0, 0]) (cs := []) (len := 0) hs' hd' rfl
  simp only [B8vc, B8vn, List.cons_append, List.nil_append] at a6 a4
  have eqS : eqV (([x0, x1, x2, x3, 0, 0, 0, 0, 0, 0, 0, 0, 0, 0, 0, 0] : List Int).map (Value.int .u8)) (z16.map (Value.int .u8)) = decide ([x0, x1, x2, x3, 0, 0, 0, 0, 0, 0, 0, 0, 0, 0, 0, 0] = z16) := eqV_ints (by rw [hs']; rfl)
  have pkS := pairOk16 hs' (show z16.length = 16 from rfl)
  simp only [z16, List.map_cons, List.map_nil] at eqS pkS
  have hz1 : ([x0, x1, x2, x3, 0, 0, 0, 0, 0, 0, 0, 0, 0, 0, 0, 0] = z16) = True := by simp only [hz0]
  have hzl : ([x0, x1, x2, x3, 0, 0, 0, 0, 0, 0, 0, 0, 0, 0, 0, 0] = [0, 0, 0, 0, 0, 0, 0, 0, 0, 0, 0, 0, 0, 0, 0, 0]) = True := hz1
  have ne1 : (e != 0) = true := by simp [ne]
  subst hre
  rw [pvCall_own (fn := Try.f12) rfl Try.func12 rfl (by decide) rfl rfl (by simp)]
  have hP : w4V 0 0 false 3 1 [x0, x1, x2, x3, 0, 0, 0, 0, 0, 0, 0, 0, 0, 0, 0, 0] [y0, y1, y2, y3, 0, 0, 0, 0, 0, 0, 0, 0, 0, 0, 0, 0] [] M = ewC P := hP0
  simp -implicitDefEqProofs [hP, u1, l8, l9, w1, w2, w3, p1, p2, hgm, g6, g4, a6, a4, eqS, pkS, hge, hW, hMb, hV, hE, hPb, echA, fARead, fAWrite, fW4, fW6, fAEcho, fABack1, fKnown37, ewC, ewE, splice, B8vc, B8vn, asB8_nil'', asB8_cons'', Nat.testBit_eq_decide_div_mod_eq, mS, mD, hz1, hzl, ne, ne1]
set_option maxHeartbeats 32000000 in
theorem aback_f_ok (x0 x1 x2 x3 x4 x5 x6 x7 x8 x9 x10 x11 x12 x13 x14 x15 y0 y1 y2 y3 y4 y5 y6 y7 y8 y9 y10 y11 y12 y13 y14 y15 : Int) (re : Bool) (id nu : Int) (ps : List Int) (xn : Bool) (xc : Option Nat) (M P : List Int) (hW : ewV false [x0, x1, x2, x3, 0, 0, 0, 0, 0, 0, 0, 0, 0, 0, 0, 0] [y0, y1, y2, y3, 0, 0, 0, 0, 0, 0, 0, 0, 0, 0, 0, 0] re id nu ps = ewC M) (hMl : M.length = 8 + ps.length) (hMb : bytesB M = true) (hV : ecV false [x0, x1, x2, x3, 0, 0, 0, 0, 0, 0, 0, 0, 0, 0, 0, 0] [y0, y1, y2, y3, 0, 0, 0, 0, 0, 0, 0, 0, 0, 0, 0, 0] M = (.tup [echA re id nu (.own 0 0 0 ps.length 1 (.whole 5)), .v (.int .i64 0)], [B8 ps])) (hP0 : pk3 false [x0, x1, x2, x3, 0, 0, 0, 0, 0, 0, 0, 0, 0, 0, 0, 0] [y0, y1, y2, y3, 0, 0, 0, 0, 0, 0, 0, 0, 0, 0, 0, 0] M = ewC P) (hPl : P.length ≤ 1500) (hPb : bytesB P = true) (Q : List Int) (hE : ekV P = ewC Q) (hQl : Q.length = P.length) (hQb : bytesB Q = true) (hE2 : ekV Q = ewE 10) (hre : re = false) (mS : manyB false [x0, x1, x2, x3, 0, 0, 0, 0, 0, 0, 0, 0, 0, 0, 0, 0] = false) (mD : manyB false [y0, y1, y2, y3, 0, 0, 0, 0, 0, 0, 0, 0, 0, 0, 0, 0] = false) (hz0 : ¬ [x0, x1, x2, x3, 0, 0, 0, 0, 0, 0, 0, 0, 0, 0, 0, 0] = z16) (h1 : ps.length ≤ 1400) (hge : goodE id nu [x0, x1, x2, x3, 0, 0, 0, 0, 0, 0, 0, 0, 0, 0, 0, 0] [y0, y1, y2, y3, 0, 0, 0, 0, 0, 0, 0, 0, 0, 0, 0, 0] ps ps.length) : (pvCall Try.prog KAB Dm 100000 1 0 12 [.v (.bool false), .agg (B8 [x0, x1, x2, x3, x4, x5, x6, x7, x8, x9, x10, x11, x12, x13, x14, x15]), .agg (B8 [y0, y1, y2, y3, y4, y5, y6, y7, y8, y9, y10, y11, y12, y13, y14, y15]), echA re id nu (.sl xn (B8 ps) ps.length xc)] (fun _ => none)).map (·.1) = some (.v (.bool true)) := by
  have hge1 := hge
  obtain ⟨_, _, hs', hd', hz, bs, bd, _⟩ := hge1
  have u1 : ¬ (1400 : Int) < (ps.length : Int) := by omega
  have l8 : ps.take ps.length = ps := List.take_length
  have l9 : ps.length ≤ 9223372036854775807 := by omega
  have w1 : M.length ≤ 500000 := by omega
  have w2 : M.take M.length = M := List.take_length
  have w3 : M.length ≤ 9223372036854775807 := by omega
  have p1 : P.length ≤ 500000 := by omega
  have p2 : P.take P.length = P := List.take_length
  have hgm : goodM [x0, x1, x2, x3, 0, 0, 0, 0, 0, 0, 0, 0, 0, 0, 0, 0] [y0, y1, y2, y3, 0, 0, 0, 0, 0, 0, 0, 0, 0, 0, 0, 0] M M.length := ⟨rfl, w1, hs', hd', hMb, bs, bd⟩
  have g6 : good6 0 0 58 58 3 [x0, x1, x2, x3, 0, 0, 0, 0, 0, 0, 0, 0, 0, 0, 0, 0] [y0, y1, y2, y3, 0, 0, 0, 0, 0, 0, 0, 0, 0, 0, 0, 0] [] := ⟨by decide, by decide, by decide, by decide, by decide, by decide, by decide, by decide, by decide, by decide, hs', hd', bs, bd, rfl, by decide⟩
  have g4 : good4 0 0 3 1 [x0, x1, x2, x3, 0, 0, 0, 0, 0, 0, 0, 0, 0, 0, 0, 0] [y0, y1, y2, y3, 0, 0, 0, 0, 0, 0, 0, 0, 0, 0, 0, 0] [] := ⟨by decide, by decide, by decide, by decide, by decide, by decide, by decide, by decide, hs', hd', bs, bd, rfl, by decide⟩
  have a6 := asI6_at (cl := 0) (la := 0) (nx := 58) (pr := 58) (ho := 3) (ss := [x0, x1, x2, x3, 0, 0, 0, 0, 0, 0, 0, 0, 0, 0, 0, 0]) (ds := [y0, y1, y2, y3, 0, 0, 0, 0, 0, 0, 0, 0, 0, 0, 0, 0]) (cs := []) (len := 0) hs' hd' rfl
  have a4 := asI4_at (tos := 0) (id := 0) (df := false) (ttl := 3) (pr := 1) (ss := [x0, x1, x2, x3, 0, 0, 0, 0, 0, 0, 0, 0, 0, 0, 0, 0]) (ds := [y0, y1, y2, y3, 0, 0, 0, 0, 0, 0, 0, 0, 0, 0, 0, 0]) (cs := []) (len := 0) hs' hd' rfl
  simp only [B8vc, B8vn, List.cons_append, List.nil_append] at a6 a4
  have eqS : eqV (([x0, x1, x2, x3, 0, 0, 0, 0, 0, 0, 0, 0, 0, 0, 0, 0] : List Int).map (Value.int .u8)) (z16.map (Value.int .u8)) = decide ([x0, x1, x2, x3, 0, 0, 0, 0, 0, 0, 0, 0, 0, 0, 0, 0] = z16) := eqV_ints (by rw [hs']; rfl)
  have pkS := pairOk16 hs' (show z16.length = 16 from rfl)
  simp only [z16, List.map_cons, List.map_nil] at eqS pkS
  have hz1 : ([x0, x1, x2, x3, 0, 0, 0, 0, 0, 0, 0, 0, 0, 0, 0, 0] = z16) = False := by simp only [hz0]
  have hzl : ([x0, x1, x2, x3, 0, 0, 0, 0, 0, 0, 0, 0, 0, 0, 0, 0] = [0, 0, 0, 0, 0, 0, 0, 0, 0, 0, 0, 0, 0, 0, 0, 0]) = False := hz1
  have hq1 : Q.length ≤ 500000 := by omega
  have hq2 : Q.take Q.length = Q := List.take_length
  have hq3 : (Q.length : Int) = (P.length : Int) := by omega
  have hq4 : Q.take P.length = Q := by rw [← hQl]; exact hq2
  subst hre
  rw [pvCall_own (fn := Try.f12) rfl Try.func12 rfl (by decide) rfl rfl (by simp)]
  have hP : w4V 0 0 false 3 1 [x0, x1, x2, x3, 0, 0, 0, 0, 0, 0, 0, 0, 0, 0, 0, 0] [y0, y1, y2, y3, 0, 0, 0, 0, 0, 0, 0, 0, 0, 0, 0, 0] [] M = ewC P := hP0
  simp -implicitDefEqProofs [hP, u1, l8, l9, w1, w2, w3, p1, p2, hgm, g6, g4, a6, a4, eqS, pkS, hge, hW, hMb, hV, hE, hPb, echA, fARead, fAWrite, fW4, fW6, fAEcho, fABack1, fKnown37, ewC, ewE, splice, B8vc, B8vn, asB8_nil'', asB8_cons'', Nat.testBit_eq_decide_div_mod_eq, mS, mD, hz1, hzl, hq1, hq2, hq3, hq4, hQl, hQb, hE2]
theorem aback_run (v6 : Bool) (ss ds : List Int) (re : Bool) (id nu : Int) (ps : List Int) (xn : Bool) (xc : Option Nat) (hp : ps.length ≤ 9223372036854775807) (hs : ss.length = 16) (hd : ds.length = 16) (bs : bytesB ss = true) (bd : bytesB ds = true) (bp : bytesB ps = true) (a0 : 0 ≤ id) (a1 : id ≤ 65535) (b0 : 0 ≤ nu) (b1 : nu ≤ 65535) : (pvCall Try.prog KAB Dm 100000 1 0 12 [.v (.bool v6), .agg (B8 ss), .agg (B8 ds), echA re id nu (.sl xn (B8 ps) ps.length xc)] (fun _ => none)).map (·.1) = some (.v (.bool true)) := by
  by_cases hlong : 1400 < ps.length
  · exact aback_long v6 ss ds re id nu ps xn xc hp hs hd hlong
  have h1 : ps.length ≤ 1400 := by omega
  cases v6 with
  | true =>
    have hge : goodE id nu ss ds ps ps.length := ⟨rfl, by omega, hs, hd, bp, bs, bd, a0, a1, b0, b1⟩
    obtain ⟨M, P, hW, hMl, hMb, hV, hP, hPl, hPb, hh⟩ := back_law (v6 := true) (re := re) hge h1 (fun h => by cases h)
    rcases hh with ⟨hr, e, ne, hE⟩ | ⟨⟨r1, r2, r3, r4⟩, Q, hE, hQl, hQb, hE2⟩
    · cases hre : re with
      | true => subst hre; exact aback_s_re ss ds hs hd _ id nu ps xn xc M P hW hMl hMb hV hP hPl hPb e ne hE rfl h1 hge
      | false =>
        subst hre
        cases mS : manyB true ss with
        | true => exact aback_s_ms ss ds hs hd _ id nu ps xn xc M P hW hMl hMb hV hP hPl hPb e ne hE rfl mS h1 hge
        | false =>
          cases mD : manyB true ds with
          | true => exact aback_s_md ss ds hs hd _ id nu ps xn xc M P hW hMl hMb hV hP hPl hPb e ne hE rfl mS mD h1 hge
          | false =>
            have hz : ss = z16 := by
              rcases hr with h | h | h | h
              · cases h
              · rw [mS] at h; cases h
              · rw [mD] at h; cases h
              · exact h
            exact aback_s_z ss ds hs hd _ id nu ps xn xc M P hW hMl hMb hV hP hPl hPb e ne hE rfl mS mD hz h1 hge
    · exact aback_s_ok ss ds hs hd _ id nu ps xn xc M P hW hMl hMb hV hP hPl hPb Q hE hQl hQb hE2 r1 r2 r3 r4 h1 hge
  | false =>
    obtain ⟨x0, x1, x2, x3, x4, x5, x6, x7, x8, x9, x10, x11, x12, x13, x14, x15, rfl⟩ : ∃ x0 x1 x2 x3 x4 x5 x6 x7 x8 x9 x10 x11 x12 x13 x14 x15, ss = [x0, x1, x2, x3, x4, x5, x6, x7, x8, x9, x10, x11, x12, x13, x14, x15] := by
      match ss, hs with
      | [x0, x1, x2, x3, x4, x5, x6, x7, x8, x9, x10, x11, x12, x13, x14, x15], _ => exact ⟨x0, x1, x2, x3, x4, x5, x6, x7, x8, x9, x10, x11, x12, x13, x14, x15, rfl⟩
    obtain ⟨y0, y1, y2, y3, y4, y5, y6, y7, y8, y9, y10, y11, y12, y13, y14, y15, rfl⟩ : ∃ y0 y1 y2 y3 y4 y5 y6 y7 y8 y9 y10 y11 y12 y13 y14 y15, ds = [y0, y1, y2, y3, y4, y5, y6, y7, y8, y9, y10, y11, y12, y13, y14, y15] := by
      match ds, hd with
      | [y0, y1, y2, y3, y4, y5, y6, y7, y8, y9, y10, y11, y12, y13, y14, y15], _ => exact ⟨y0, y1, y2, y3, y4, y5, y6, y7, y8, y9, y10, y11, y12, y13, y14, y15, rfl⟩
    have bs4 : bytesB [x0, x1, x2, x3, 0, 0, 0, 0, 0, 0, 0, 0, 0, 0, 0, 0] = true := by
      simp only [bytesB_cons, Bool.and_eq_true, decide_eq_true_eq] at bs ⊢
      exact ⟨bs.1, bs.2.1, bs.2.2.1, bs.2.2.2.1, by decide⟩
    have bd4 : bytesB [y0, y1, y2, y3, 0, 0, 0, 0, 0, 0, 0, 0, 0, 0, 0, 0] = true := by
      simp only [bytesB_cons, Bool.and_eq_true, decide_eq_true_eq] at bd ⊢
      exact ⟨bd.1, bd.2.1, bd.2.2.1, bd.2.2.2.1, by decide⟩
    have hge : goodE id nu [x0, x1, x2, x3, 0, 0, 0, 0, 0, 0, 0, 0, 0, 0, 0, 0] [y0, y1, y2, y3, 0, 0, 0, 0, 0, 0, 0, 0, 0, 0, 0, 0] ps ps.length := ⟨rfl, by omega, rfl, rfl, bp, bs4, bd4, a0, a1, b0, b1⟩
    obtain ⟨M, P, hW, hMl, hMb, hV, hP, hPl, hPb, hh⟩ := back_law (v6 := false) (re := re) hge h1 (fun _ => ⟨rfl, rfl⟩)
    rcases hh with ⟨hr, e, ne, hE⟩ | ⟨⟨r1, r2, r3, r4⟩, Q, hE, hQl, hQb, hE2⟩
    · cases hre : re with
      | true => subst hre; exact aback_f_re x0 x1 x2 x3 x4 x5 x6 x7 x8 x9 x10 x11 x12 x13 x14 x15 y0 y1 y2 y3 y4 y5 y6 y7 y8 y9 y10 y11 y12 y13 y14 y15 _ id nu ps xn xc M P hW hMl hMb hV hP hPl hPb e ne hE rfl h1 hge
      | false =>
        subst hre
        cases mS : manyB false [x0, x1, x2, x3, 0, 0, 0, 0, 0, 0, 0, 0, 0, 0, 0, 0] with
        | true => exact aback_f_ms x0 x1 x2 x3 x4 x5 x6 x7 x8 x9 x10 x11 x12 x13 x14 x15 y0 y1 y2 y3 y4 y5 y6 y7 y8 y9 y10 y11 y12 y13 y14 y15 _ id nu ps xn xc M P hW hMl hMb hV hP hPl hPb e ne hE rfl mS h1 hge
        | false =>
          cases mD : manyB false [y0, y1, y2, y3, 0, 0, 0, 0, 0, 0, 0, 0, 0, 0, 0, 0] with
          | true => exact aback_f_md x0 x1 x2 x3 x4 x5 x6 x7 x8 x9 x10 x11 x12 x13 x14 x15 y0 y1 y2 y3 y4 y5 y6 y7 y8 y9 y10 y11 y12 y13 y14 y15 _ id nu ps xn xc M P hW hMl hMb hV hP hPl hPb e ne hE rfl mS mD h1 hge
          | false =>
            have hz : [x0, x1, x2, x3, 0, 0, 0, 0, 0, 0, 0, 0, 0, 0, 0, 0] = z16 := by
              rcases hr with h | h | h | h
              · cases h
              · rw [mS] at h; cases h
              · rw [mD] at h; cases h
              · exact h
            exact aback_f_z x0 x1 x2 x3 x4 x5 x6 x7 x8 x9 x10 x11 x12 x13 x14 x15 y0 y1 y2 y3 y4 y5 y6 y7 y8 y9 y10 y11 y12 y13 y14 y15 _ id nu ps xn xc M P hW hMl hMb hV hP hPl hPb e ne hE rfl mS mD hz h1 hge
    · exact aback_f_ok x0 x1 x2 x3 x4 x5 x6 x7 x8 x9 x10 x11 x12 x13 x14 x15 y0 y1 y2 y3 y4 y5 y6 y7 y8 y9 y10 y11 y12 y13 y14 y15 _ id nu ps xn xc M P hW hMl hMb hV hP hPl hPb Q hE hQl hQb hE2 r1 r2 r3 r4 h1 hge
theorem answerBack_walk (w : World) (v6 : Bool) (v1 : Value) (o1 : InAr 16 v1) (v2 : Value) (o2 : InAr 16 v2) (v4 : Value) (o4 : InEcho w v4) :
    Calls Try.prog 12 #[.bool v6, v1, v2, v4] w fun e w' => e = .returned (.bool true) ∧ Below w.heap.size w w' := by
  obtain ⟨ss, rfl, s1, s2⟩ := o1
  obtain ⟨ds, rfl, d1, d2⟩ := o2
  obtain ⟨re, id, nu, b, blen, bcap, ps, rfl, rb, a0, a1, b0, b1⟩ := o4
  have hbl : ps.length = blen := rb.1
  subst hbl
  have ra : RelL (noneAt w) [.v (.bool v6), .agg (B8 ss), .agg (B8 ds), echA re id nu (.sl false (B8 ps) ps.length none)] (#[.bool v6, .agg (ar ss), .agg (ar ds), .agg (vE re id nu (.slice b ps.length bcap)).toArray] : Array Value).toList :=
    .cons .v (.cons (rel_ar _ ss) (.cons (rel_ar _ ds) (.cons (rel_echo rb) (.nil _))))
  have hb2 : ps.length ≤ 9223372036854775807 := by have := rb.le; have := rb.cap_le; omega
  have key := aback_run v6 ss ds re id nu ps false none hb2 s1 d1 (bytesB_iff.2 s2) (bytesB_iff.2 d2) (bytesB_iff.2 rb.5) a0 a1 b0 b1
  obtain ⟨⟨x, m'⟩, k1, k2⟩ := Option.map_eq_some_iff.1 key
  simp only at k2
  subst k2
  exact law_of_run kab_ok follows_mixed dm_ok k1 ra
end Go.Proofs.Ytmdafjegddnecaa
