/- answer.TooBig as a function of values. -/
import Derived.Test.YtmdafjegddnecaaMi
namespace Go.Proofs.Ytmdafjegddnecaa
open Go.Pm Go.Wb
set_option linter.unusedVariables false
set_option linter.unusedSimpArgs false
set_option maxRecDepth 1000000
set_option maxHeartbeats 128000000 in
theorem abig_run (zs fr : List Int) (size : Int) (nn : Bool) (cap : Option Nat) (hl : zs.length ≤ 500000) (hz : bytesB zs = true) (hF : fr.length = 16) (bF : bytesB fr = true) (z0 : 0 ≤ size) (z1 : size ≤ 65535) : runF Try.prog KAT Dm 100000 3 48 [.sl nn (B8 zs) zs.length cap, .agg (B8 fr), .v (.int .u16 size)] = some (tbV zs fr size) := by
  have hal := fun (px : Nat) (args : List AV) (m : Mem) (hl : args.length ≤ Try.f103.ntmps) => pvCall_own (P := Try.prog) (K := KAT) (D := Dm) (L := 100000) (d := 1) (px := px) (args := args) (m := m) (f := 103) (fn := Try.f103) rfl Try.func103 rfl (by decide) rfl rfl hl
  have hal0 := fun (px : Nat) (args : List AV) (m : Mem) (hl : args.length ≤ Try.f103.ntmps) => pvCall_own (P := Try.prog) (K := KAT) (D := Dm) (L := 100000) (d := 0) (px := px) (args := args) (m := m) (f := 103) (fn := Try.f103) rfl Try.func103 rfl (by decide) rfl rfl hl
  have hv2 := fun (px : Nat) (args : List AV) (m : Mem) (hl : args.length ≤ Try.f172.ntmps) => pvCall_own (P := Try.prog) (K := KAT) (D := Dm) (L := 100000) (d := 1) (px := px) (args := args) (m := m) (f := 172) (fn := Try.f172) rfl Try.func172 rfl (by decide) rfl rfl hl
  have hv20 := fun (px : Nat) (args : List AV) (m : Mem) (hl : args.length ≤ Try.f172.ntmps) => pvCall_own (P := Try.prog) (K := KAT) (D := Dm) (L := 100000) (d := 0) (px := px) (args := args) (m := m) (f := 172) (fn := Try.f172) rfl Try.func172 rfl (by decide) rfl rfl hl
  have hv4 := fun (px : Nat) (args : List AV) (m : Mem) (hl : args.length ≤ Try.f175.ntmps) => pvCall_own (P := Try.prog) (K := KAT) (D := Dm) (L := 100000) (d := 1) (px := px) (args := args) (m := m) (f := 175) (fn := Try.f175) rfl Try.func175 rfl (by decide) rfl rfl hl
  have hv40 := fun (px : Nat) (args : List AV) (m : Mem) (hl : args.length ≤ Try.f175.ntmps) => pvCall_own (P := Try.prog) (K := KAT) (D := Dm) (L := 100000) (d := 0) (px := px) (args := args) (m := m) (f := 175) (fn := Try.f175) rfl Try.func175 rfl (by decide) rfl rfl hl
  have hv1 := fun (px : Nat) (args : List AV) (m : Mem) (hl : args.length ≤ Try.f171.ntmps) => pvCall_own (P := Try.prog) (K := KAT) (D := Dm) (L := 100000) (d := 1) (px := px) (args := args) (m := m) (f := 171) (fn := Try.f171) rfl Try.func171 rfl (by decide) rfl rfl hl
  have hv3 := fun (px : Nat) (args : List AV) (m : Mem) (hl : args.length ≤ Try.f174.ntmps) => pvCall_own (P := Try.prog) (K := KAT) (D := Dm) (L := 100000) (d := 1) (px := px) (args := args) (m := m) (f := 174) (fn := Try.f174) rfl Try.func174 rfl (by decide) rfl rfl hl
  have hg : zs.length = zs.length ∧ zs.length ≤ 500000 ∧ bytesB zs = true := ⟨rfl, hl, hz⟩
  have tF : fr.take 16 = fr := List.take_of_length_le (by omega)
  unfold runF tbV tbE
  rw [pvCall_own (fn := Try.f48) rfl Try.func48 rfl (by decide) rfl rfl (by simp)]
  by_cases he : anEr zs = 0
  case neg =>
    obtain ⟨v, n, V, h1, h2, h3, h4⟩ := an_err he
    have hen : (anEr zs == 0) = false := by simp [he]
    have hen2 : (anEr zs != 0) = true := by simp [he]
    rcases h4 with rfl | rfl | rfl <;> simp -implicitDefEqProofs [he, hen, hen2, h1, h2, h3, z16, verA, noVer, ewE, fAHead, ahV, hg, hal, hal0, hv2, hv20, hv4, hv40, hv1, hv3, hdA, splice, B8vc, B8vn, IntKind.bits, Nat.testBit_eq_decide_div_mod_eq, hF, tF]
  obtain ⟨h1, h2, h3, hS, hD, bS, bD, bR, hle, h20, hR6⟩ := an_ok hl hz he
  have hN4 := an_n4 (zs := zs) hz
  have hN : tbN zs = if an6 zs = true then (if anN zs + (anR zs).length < 1232 then anN zs + (anR zs).length else 1232) else if anN zs + (anR zs).length < anN zs + 8 then anN zs + (anR zs).length else anN zs + 8 := rfl
  generalize tbN zs = n at *
  generalize hw : an6 zs = v6 at *
  generalize anS zs = S at *
  generalize anD zs = E at *
  generalize anR zs = R at *
  generalize anP zs = P at *
  generalize anN zs = N at *
  have s0 := B8_at00 S (by omega)
  have r0 : 0 < R.length → (B8 R)[0]? = some (.v (.int .u8 (gb R 0))) := fun h => B8_at00 R h
  have eqS : eqV (S.map (Value.int .u8)) (z16.map (Value.int .u8)) = decide (S = z16) := eqV_ints (hS.trans rfl)
  have pkS := pairOk16 hS (show z16.length = 16 from rfl)
  simp only [z16, List.map_cons, List.map_nil] at eqS pkS
  have t1 : S.take 16 = S := List.take_of_length_le (by omega)
  have t2 : E.take 16 = E := List.take_of_length_le (by omega)
  have g6 := good6_pk hF hS bF bS
  have g4 := good4_pk hF hS bF bS
  have a6 := asI6_at (cl := 0) (la := 0) (nx := 58) (pr := 58) (ho := 64) (cs := []) (len := 0) hF hS rfl
  have a4 := asI4_at (tos := 0) (id := 0) (df := false) (ttl := 64) (pr := 1) (cs := []) (len := 0) hF hS rfl
  simp only [B8vn] at a6 a4
  have m1 : size / 256 % 256 = size / 256 := by omega
  have m3 : size.fdiv 256 = size / 256 := Int.fdiv_eq_ediv_of_nonneg _ (by omega)
  have m4 : size.tdiv 256 = size / 256 := Int.tdiv_eq_ediv_of_nonneg (by omega)
  have m5 : IntKind.u8.wrap (size / 256) = size / 256 := wrapu8_id (by omega) (by omega)
  have m6 : IntKind.u8.wrap size = size % 256 := by simp [IntKind.wrap, IntKind.signed, IntKind.bits]
  have m7 : size.tmod 256 = size % 256 := Int.tmod_eq_emod_of_nonneg (by omega)
  have m8 : IntKind.u8.wrap (size % 256) = size % 256 := wrapu8_id (by omega) (by omega)
  have m9 : IntKind.u16.wrap (size / 256) = size / 256 := wrapu16_id (by omega) (by omega)
  have m10 : IntKind.u16.wrap (size % 256) = size % 256 := wrapu16_id (by omega) (by omega)
  obtain ⟨T, hT⟩ : ∃ T, T = N + R.length := ⟨_, rfl⟩
  obtain ⟨U, hU⟩ : ∃ U, U = N + 8 := ⟨_, rfl⟩
  rw [← hT, ← hU] at hN
  have w1 : IntKind.i64.wrap ((N : Int) + (R.length : Int)) = (T : Int) := by rw [wrap64_id (by omega) (by omega)]; omega
  have w2 : IntKind.i64.wrap ((N : Int) + 8) = (U : Int) := by rw [wrap64_id (by omega) (by omega)]; omega
  have bh : bytesB [0, 0, size / 256, size % 256] = true := by
    simp only [bytesB_cons, Bool.and_eq_true, decide_eq_true_eq]
    exact ⟨by omega, by omega, by omega, by omega, rfl⟩
  have hgi : ∀ (k c : Int), 0 ≤ k → k ≤ 255 → 0 ≤ c → c ≤ 255 → ∀ j : Nat, j ≤ zs.length → goodIW k c fr S [0, 0, size / 256, size % 256] (zs.take j) j := fun k c k0 k1 c0 c1 j hj => ⟨by simp; omega, by omega, hF, hS, rfl, bytesB_take hz j, bF, bS, bh, k0, k1, c0, c1⟩
  have slS := And.intro (B8t16 hS) <| And.intro (B8d16 hS) <| And.intro (B8t16 hD) <| And.intro (B8d16 hD) <| And.intro (B8t33 hS) <| And.intro (B8t17 hD) <| And.intro (B8d32 hS) <| And.intro (B8d32 hD) <| And.intro (B8t32 hS) <| And.intro (B8d33 hS) <| And.intro (B8d17 hD) <| And.intro (B8d34 hS) <| And.intro (B8d18 hD) <| And.intro (B8t34 hS) <| And.intro (B8t18 hD) <| And.intro (B8d35 hS) <| And.intro (B8d19 hD) <| And.intro (B8t35 hS) <| And.intro (B8t19 hD) <| And.intro (B8t33 hD) <| And.intro (B8t17 hS) <| And.intro (B8d17 hS) <| And.intro (B8d33 hD) <| And.intro (B8d18 hS) <| B8t18 hS
  have slF := And.intro (B8t16 hF) <| And.intro (B8d16 hF) <| And.intro (B8t17 hF) <| And.intro (B8d32 hF) <| And.intro (B8d17 hF) <| And.intro (B8d18 hF) <| And.intro (B8t18 hF) <| And.intro (B8d19 hF) <| And.intro (B8t19 hF) <| And.intro (B8t33 hF) <| B8d33 hF
  have cc := And.intro (slS) <| And.intro (slF) <| And.intro (bS) <| And.intro (bD) <| And.intro (bF) <| And.intro (he) <| And.intro (h1) <| And.intro (h2) <| And.intro (h3) <| And.intro (hS) <| And.intro (hD) <| And.intro (s0) <| And.intro (eqS) <| And.intro (pkS) <| And.intro (t1) <| And.intro (t2) <| And.intro (w1) <| And.intro (w2) <| And.intro (m1) <| And.intro (m3) <| And.intro (m4) <| And.intro (m5) <| And.intro (m6) <| And.intro (m7) <| And.intro (m8) <| And.intro (m9) <| And.intro (m10) <| And.intro (hg) <| And.intro (hF) <| And.intro (tF) <| And.intro (g6) <| And.intro (g4) <| And.intro (a6) <| And.intro (a4) <| And.intro (hal) <| And.intro (hal0) <| And.intro (hv2) <| And.intro (hv20) <| And.intro (hv4) <| And.intro (hv40) <| And.intro (hv1) <| hv3
  obtain rfl | rfl : v6 = true ∨ v6 = false := by cases v6 <;> simp
  · by_cases hi : P = ownP true ∧ 0 < R.length ∧ isE true (gb R 0) = true
    · obtain ⟨hp, hr, hx⟩ := hi
      subst hp
      have hr1 : (0 : Int) < (R.length : Int) := by omega
      have r1 := r0 hr
      have g := (gb_range bR 0).1
      simp -implicitDefEqProofs [hr, hr1, hx, r1, g, ewE, cc, -B8_append, verA, fIse, ownP, fAHead, ahV, hdA, splice, B8vc, B8vn, IntKind.bits, Nat.testBit_eq_decide_div_mod_eq]
    have hi2 : (¬ P = 58) ∨ (P = 58 ∧ ¬ 0 < R.length) ∨ (P = 58 ∧ 0 < R.length ∧ isE true (gb R 0) = false) := by
      by_cases hp : P = 58
      · by_cases hr : 0 < R.length
        · refine .inr (.inr ⟨hp, hr, ?_⟩)
          cases hx : isE true (gb R 0) with
          | false => rfl
          | true => exact absurd ⟨hp, hr, hx⟩ hi
        · exact .inr (.inl ⟨hp, hr⟩)
      · exact .inl hp
    have g := (gb_range bR 0).1
    rcases hi2 with hp | ⟨hp, hr⟩ | ⟨hp, hr, hx⟩
    · skip
      have hpb : (P == 58) = false := by simp [hp]
      have hpi : ¬ (P = ownP true ∧ 0 < R.length ∧ isE true (gb R 0) = true) := fun h => hp h.1
      by_cases mS : manyB true S = true
      · have mSb : (gb S 0 == 255) = true := by simpa [manyB] using mS
        simp -implicitDefEqProofs [hp, hpb, hpi, mS, mSb, ewE, cc, -B8_append, verA, fIse, ownP, fAHead, ahV, hdA, splice, B8vc, B8vn, IntKind.bits, Nat.testBit_eq_decide_div_mod_eq]
      have mSb : (gb S 0 == 255) = false := by simpa [manyB] using mS
      by_cases hz0 : S = z16
      · have hz1 : (S = z16) = True := by simp [hz0]
        have hzl : (S = [0, 0, 0, 0, 0, 0, 0, 0, 0, 0, 0, 0, 0, 0, 0, 0]) = True := hz1
        simp -implicitDefEqProofs [hp, hpb, hpi, mS, mSb, hz1, hzl, ewE, cc, -B8_append, verA, fIse, ownP, fAHead, ahV, hdA, splice, B8vc, B8vn, IntKind.bits, Nat.testBit_eq_decide_div_mod_eq]
      have hz1 : (S = z16) = False := by simp [hz0]
      have hzl : (S = [0, 0, 0, 0, 0, 0, 0, 0, 0, 0, 0, 0, 0, 0, 0, 0]) = False := hz1
      by_cases hq : size < 1280
      · have hq2 : size < leastP true := hq
        simp -implicitDefEqProofs [hp, hpb, hpi, mS, mSb, hz1, hzl, hq, hq2, ewE, cc, -B8_append, verA, fIse, ownP, fAHead, ahV, hdA, splice, B8vc, B8vn, IntKind.bits, Nat.testBit_eq_decide_div_mod_eq]
      have hq2 : ¬ size < leastP true := hq
      have hTU : (T : Int) < (U : Int) ∨ ¬ (T : Int) < (U : Int) := Classical.em _
      by_cases hc : T < 1232
      · skip
        have i1 : (T : Int) < 1232 := by omega
        have i2 : ¬ (1232 : Int) < (T : Int) := by omega
        have i3 : ¬ 1232 < T := by omega
        have hn : T = n := by rw [hN]; simp [hc, i3]
        clear hN
        subst hn
        have hnl : T ≤ zs.length := by omega
        have hnl2 : ((T : Nat) : Int) ≤ (zs.length : Int) := by omega
        have hnl3 : (zs.take T).length = T := by simp; omega
        have hgk := hgi (tbK true) (tbC true) (by decide) (by decide) (by decide) (by decide) T hnl
        have hIW : iwV true fr S (tbK true) (tbC true) [0, 0, size / 256, size % 256] (zs.take T) = if 1652 < (zs.take T).length then ewE 3 else ewC (tbM true fr S size (zs.take T)) := rfl
        have hlong : ¬ 1652 < (zs.take T).length := by omega
        have hMl : (tbM true fr S size (zs.take T)).length = 8 + (zs.take T).length := by simp [tbM, w6M]; omega
        generalize tbM true fr S size (zs.take T) = M at *
        have hk : tbK true = 2 := rfl
        have hcc : tbC true = 0 := rfl
        rw [hk, hcc] at hgk hIW
        generalize hps : zs.take T = ps at *
        rw [if_neg hlong] at hIW
        have hM5 : M.length ≤ 500000 := by omega
        have hMl2 : M.length ≤ 9223372036854775807 := by omega
        have hMt : M.take M.length = M := List.take_length
        rcases pk_form true fr S M with ⟨e, ne, hP⟩ | ⟨W, hP⟩
        · have hP2 : w6V 0 0 58 58 64 fr S [] M = ewE e := hP
          simp -implicitDefEqProofs [i1, hc, i2, i3, hnl, hnl2, hnl3, hgk, hps, hq, hq2, hz1, hzl, mS, mSb, hp, hpb, hpi, fIW, hIW, hM5, hMl2, hMt, hP, hP2, fW6, fW4, ewE, ewC, asB8_nil'', asB8_cons'', cc, -B8_append, verA, fIse, ownP, fAHead, ahV, hdA, splice, B8vc, B8vn, IntKind.bits, Nat.testBit_eq_decide_div_mod_eq]
        · have hP2 : w6V 0 0 58 58 64 fr S [] M = ewC W := hP
          simp -implicitDefEqProofs [i1, hc, i2, i3, hnl, hnl2, hnl3, hgk, hps, hq, hq2, hz1, hzl, mS, mSb, hp, hpb, hpi, fIW, hIW, hM5, hMl2, hMt, hP, hP2, fW6, fW4, ewE, ewC, asB8_nil'', asB8_cons'', cc, -B8_append, verA, fIse, ownP, fAHead, ahV, hdA, splice, B8vc, B8vn, IntKind.bits, Nat.testBit_eq_decide_div_mod_eq]
      by_cases hc2 : 1232 < T
      · skip
        have hc := hc2
        have i1 : ¬ (T : Int) < 1232 := by omega
        have i2 : (1232 : Int) < (T : Int) := by omega
        have i3 : ¬ T < 1232 := by omega
        have hn : 1232 = n := by rw [hN]; simp [hc, i3]
        clear hN
        subst hn
        have hnl : 1232 ≤ zs.length := by omega
        have hnl2 : (1232 : Int) ≤ (zs.length : Int) := by omega
        have hnl3 : (zs.take 1232).length = 1232 := by simp; omega
        have hgk := hgi (tbK true) (tbC true) (by decide) (by decide) (by decide) (by decide) 1232 hnl
        have hIW : iwV true fr S (tbK true) (tbC true) [0, 0, size / 256, size % 256] (zs.take 1232) = if 1652 < (zs.take 1232).length then ewE 3 else ewC (tbM true fr S size (zs.take 1232)) := rfl
        have hlong : ¬ 1652 < (zs.take 1232).length := by omega
        have hMl : (tbM true fr S size (zs.take 1232)).length = 8 + (zs.take 1232).length := by simp [tbM, w6M]; omega
        generalize tbM true fr S size (zs.take 1232) = M at *
        have hk : tbK true = 2 := rfl
        have hcc : tbC true = 0 := rfl
        rw [hk, hcc] at hgk hIW
        generalize hps : zs.take 1232 = ps at *
        rw [if_neg hlong] at hIW
        have hM5 : M.length ≤ 500000 := by omega
        have hMl2 : M.length ≤ 9223372036854775807 := by omega
        have hMt : M.take M.length = M := List.take_length
        rcases pk_form true fr S M with ⟨e, ne, hP⟩ | ⟨W, hP⟩
        · have hP2 : w6V 0 0 58 58 64 fr S [] M = ewE e := hP
          simp -implicitDefEqProofs [i1, hc, i2, i3, hnl, hnl2, hnl3, hgk, hps, hq, hq2, hz1, hzl, mS, mSb, hp, hpb, hpi, fIW, hIW, hM5, hMl2, hMt, hP, hP2, fW6, fW4, ewE, ewC, asB8_nil'', asB8_cons'', cc, -B8_append, verA, fIse, ownP, fAHead, ahV, hdA, splice, B8vc, B8vn, IntKind.bits, Nat.testBit_eq_decide_div_mod_eq]
        · have hP2 : w6V 0 0 58 58 64 fr S [] M = ewC W := hP
          simp -implicitDefEqProofs [i1, hc, i2, i3, hnl, hnl2, hnl3, hgk, hps, hq, hq2, hz1, hzl, mS, mSb, hp, hpb, hpi, fIW, hIW, hM5, hMl2, hMt, hP, hP2, fW6, fW4, ewE, ewC, asB8_nil'', asB8_cons'', cc, -B8_append, verA, fIse, ownP, fAHead, ahV, hdA, splice, B8vc, B8vn, IntKind.bits, Nat.testBit_eq_decide_div_mod_eq]
      · skip
        have hT1 : T = 1232 := by omega
        subst hT1
        have i1 : True := trivial
        have i2 : True := trivial
        have i3 : True := trivial
        have hc : True := trivial
        have hn : 1232 = n := by rw [hN]; simp [hc]
        clear hN
        subst hn
        have hnl : 1232 ≤ zs.length := by omega
        have hnl2 : (1232 : Int) ≤ (zs.length : Int) := by omega
        have hnl3 : (zs.take 1232).length = 1232 := by simp; omega
        have hgk := hgi (tbK true) (tbC true) (by decide) (by decide) (by decide) (by decide) 1232 hnl
        have hIW : iwV true fr S (tbK true) (tbC true) [0, 0, size / 256, size % 256] (zs.take 1232) = if 1652 < (zs.take 1232).length then ewE 3 else ewC (tbM true fr S size (zs.take 1232)) := rfl
        have hlong : ¬ 1652 < (zs.take 1232).length := by omega
        have hMl : (tbM true fr S size (zs.take 1232)).length = 8 + (zs.take 1232).length := by simp [tbM, w6M]; omega
        generalize tbM true fr S size (zs.take 1232) = M at *
        have hk : tbK true = 2 := rfl
        have hcc : tbC true = 0 := rfl
        rw [hk, hcc] at hgk hIW
        generalize hps : zs.take 1232 = ps at *
        rw [if_neg hlong] at hIW
        have hM5 : M.length ≤ 500000 := by omega
        have hMl2 : M.length ≤ 9223372036854775807 := by omega
        have hMt : M.take M.length = M := List.take_length
        rcases pk_form true fr S M with ⟨e, ne, hP⟩ | ⟨W, hP⟩
        · have hP2 : w6V 0 0 58 58 64 fr S [] M = ewE e := hP
          simp -implicitDefEqProofs [i1, hc, i2, i3, hnl, hnl2, hnl3, hgk, hps, hq, hq2, hz1, hzl, mS, mSb, hp, hpb, hpi, fIW, hIW, hM5, hMl2, hMt, hP, hP2, fW6, fW4, ewE, ewC, asB8_nil'', asB8_cons'', cc, -B8_append, verA, fIse, ownP, fAHead, ahV, hdA, splice, B8vc, B8vn, IntKind.bits, Nat.testBit_eq_decide_div_mod_eq]
        · have hP2 : w6V 0 0 58 58 64 fr S [] M = ewC W := hP
          simp -implicitDefEqProofs [i1, hc, i2, i3, hnl, hnl2, hnl3, hgk, hps, hq, hq2, hz1, hzl, mS, mSb, hp, hpb, hpi, fIW, hIW, hM5, hMl2, hMt, hP, hP2, fW6, fW4, ewE, ewC, asB8_nil'', asB8_cons'', cc, -B8_append, verA, fIse, ownP, fAHead, ahV, hdA, splice, B8vc, B8vn, IntKind.bits, Nat.testBit_eq_decide_div_mod_eq]
    · skip
      have hpi : ¬ (P = ownP true ∧ 0 < R.length ∧ isE true (gb R 0) = true) := fun h => hr h.2.1
      have hr1 : ¬ (0 : Int) < (R.length : Int) := by omega
      have hr2 : R.length = 0 := by omega
      by_cases mS : manyB true S = true
      · have mSb : (gb S 0 == 255) = true := by simpa [manyB] using mS
        simp -implicitDefEqProofs [hp, hr, hr1, hpi, mS, mSb, ewE, cc, -B8_append, verA, fIse, ownP, fAHead, ahV, hdA, splice, B8vc, B8vn, IntKind.bits, Nat.testBit_eq_decide_div_mod_eq]
      have mSb : (gb S 0 == 255) = false := by simpa [manyB] using mS
      by_cases hz0 : S = z16
      · have hz1 : (S = z16) = True := by simp [hz0]
        have hzl : (S = [0, 0, 0, 0, 0, 0, 0, 0, 0, 0, 0, 0, 0, 0, 0, 0]) = True := hz1
        simp -implicitDefEqProofs [hp, hr, hr1, hpi, mS, mSb, hz1, hzl, ewE, cc, -B8_append, verA, fIse, ownP, fAHead, ahV, hdA, splice, B8vc, B8vn, IntKind.bits, Nat.testBit_eq_decide_div_mod_eq]
      have hz1 : (S = z16) = False := by simp [hz0]
      have hzl : (S = [0, 0, 0, 0, 0, 0, 0, 0, 0, 0, 0, 0, 0, 0, 0, 0]) = False := hz1
      by_cases hq : size < 1280
      · have hq2 : size < leastP true := hq
        simp -implicitDefEqProofs [hp, hr, hr1, hpi, mS, mSb, hz1, hzl, hq, hq2, ewE, cc, -B8_append, verA, fIse, ownP, fAHead, ahV, hdA, splice, B8vc, B8vn, IntKind.bits, Nat.testBit_eq_decide_div_mod_eq]
      have hq2 : ¬ size < leastP true := hq
      have hTU : (T : Int) < (U : Int) ∨ ¬ (T : Int) < (U : Int) := Classical.em _
      by_cases hc : T < 1232
      · skip
        have i1 : (T : Int) < 1232 := by omega
        have i2 : ¬ (1232 : Int) < (T : Int) := by omega
        have i3 : ¬ 1232 < T := by omega
        have hn : T = n := by rw [hN]; simp [hc, i3]
        clear hN
        subst hn
        have hnl : T ≤ zs.length := by omega
        have hnl2 : ((T : Nat) : Int) ≤ (zs.length : Int) := by omega
        have hnl3 : (zs.take T).length = T := by simp; omega
        have hgk := hgi (tbK true) (tbC true) (by decide) (by decide) (by decide) (by decide) T hnl
        have hIW : iwV true fr S (tbK true) (tbC true) [0, 0, size / 256, size % 256] (zs.take T) = if 1652 < (zs.take T).length then ewE 3 else ewC (tbM true fr S size (zs.take T)) := rfl
        have hlong : ¬ 1652 < (zs.take T).length := by omega
        have hMl : (tbM true fr S size (zs.take T)).length = 8 + (zs.take T).length := by simp [tbM, w6M]; omega
        generalize tbM true fr S size (zs.take T) = M at *
        have hk : tbK true = 2 := rfl
        have hcc : tbC true = 0 := rfl
        rw [hk, hcc] at hgk hIW
        generalize hps : zs.take T = ps at *
        rw [if_neg hlong] at hIW
        have hM5 : M.length ≤ 500000 := by omega
        have hMl2 : M.length ≤ 9223372036854775807 := by omega
        have hMt : M.take M.length = M := List.take_length
        rcases pk_form true fr S M with ⟨e, ne, hP⟩ | ⟨W, hP⟩
        · have hP2 : w6V 0 0 58 58 64 fr S [] M = ewE e := hP
          simp -implicitDefEqProofs [i1, hc, i2, i3, hnl, hnl2, hnl3, hgk, hps, hq, hq2, hz1, hzl, mS, mSb, hp, hr, hr1, hpi, fIW, hIW, hM5, hMl2, hMt, hP, hP2, fW6, fW4, ewE, ewC, asB8_nil'', asB8_cons'', cc, -B8_append, verA, fIse, ownP, fAHead, ahV, hdA, splice, B8vc, B8vn, IntKind.bits, Nat.testBit_eq_decide_div_mod_eq]
        · have hP2 : w6V 0 0 58 58 64 fr S [] M = ewC W := hP
          simp -implicitDefEqProofs [i1, hc, i2, i3, hnl, hnl2, hnl3, hgk, hps, hq, hq2, hz1, hzl, mS, mSb, hp, hr, hr1, hpi, fIW, hIW, hM5, hMl2, hMt, hP, hP2, fW6, fW4, ewE, ewC, asB8_nil'', asB8_cons'', cc, -B8_append, verA, fIse, ownP, fAHead, ahV, hdA, splice, B8vc, B8vn, IntKind.bits, Nat.testBit_eq_decide_div_mod_eq]
      by_cases hc2 : 1232 < T
      · skip
        have hc := hc2
        have i1 : ¬ (T : Int) < 1232 := by omega
        have i2 : (1232 : Int) < (T : Int) := by omega
        have i3 : ¬ T < 1232 := by omega
        have hn : 1232 = n := by rw [hN]; simp [hc, i3]
        clear hN
        subst hn
        have hnl : 1232 ≤ zs.length := by omega
        have hnl2 : (1232 : Int) ≤ (zs.length : Int) := by omega
        have hnl3 : (zs.take 1232).length = 1232 := by simp; omega
        have hgk := hgi (tbK true) (tbC true) (by decide) (by decide) (by decide) (by decide) 1232 hnl
        have hIW : iwV true fr S (tbK true) (tbC true) [0, 0, size / 256, size % 256] (zs.take 1232) = if 1652 < (zs.take 1232).length then ewE 3 else ewC (tbM true fr S size (zs.take 1232)) := rfl
        have hlong : ¬ 1652 < (zs.take 1232).length := by omega
        have hMl : (tbM true fr S size (zs.take 1232)).length = 8 + (zs.take 1232).length := by simp [tbM, w6M]; omega
        generalize tbM true fr S size (zs.take 1232) = M at *
        have hk : tbK true = 2 := rfl
        have hcc : tbC true = 0 := rfl
        rw [hk, hcc] at hgk hIW
        generalize hps : zs.take 1232 = ps at *
        rw [if_neg hlong] at hIW
        have hM5 : M.length ≤ 500000 := by omega
        have hMl2 : M.length ≤ 9223372036854775807 := by omega
        have hMt : M.take M.length = M := List.take_length
        rcases pk_form true fr S M with ⟨e, ne, hP⟩ | ⟨W, hP⟩
        · have hP2 : w6V 0 0 58 58 64 fr S [] M = ewE e := hP
          simp -implicitDefEqProofs [i1, hc, i2, i3, hnl, hnl2, hnl3, hgk, hps, hq, hq2, hz1, hzl, mS, mSb, hp, hr, hr1, hpi, fIW, hIW, hM5, hMl2, hMt, hP, hP2, fW6, fW4, ewE, ewC, asB8_nil'', asB8_cons'', cc, -B8_append, verA, fIse, ownP, fAHead, ahV, hdA, splice, B8vc, B8vn, IntKind.bits, Nat.testBit_eq_decide_div_mod_eq]
        · have hP2 : w6V 0 0 58 58 64 fr S [] M = ewC W := hP
          simp -implicitDefEqProofs [i1, hc, i2, i3, hnl, hnl2, hnl3, hgk, hps, hq, hq2, hz1, hzl, mS, mSb, hp, hr, hr1, hpi, fIW, hIW, hM5, hMl2, hMt, hP, hP2, fW6, fW4, ewE, ewC, asB8_nil'', asB8_cons'', cc, -B8_append, verA, fIse, ownP, fAHead, ahV, hdA, splice, B8vc, B8vn, IntKind.bits, Nat.testBit_eq_decide_div_mod_eq]
      · skip
        have hT1 : T = 1232 := by omega
        subst hT1
        have i1 : True := trivial
        have i2 : True := trivial
        have i3 : True := trivial
        have hc : True := trivial
        have hn : 1232 = n := by rw [hN]; simp [hc]
        clear hN
        subst hn
        have hnl : 1232 ≤ zs.length := by omega
        have hnl2 : (1232 : Int) ≤ (zs.length : Int) := by omega
        have hnl3 : (zs.take 1232).length = 1232 := by simp; omega
        have hgk := hgi (tbK true) (tbC true) (by decide) (by decide) (by decide) (by decide) 1232 hnl
        have hIW : iwV true fr S (tbK true) (tbC true) [0, 0, size / 256, size % 256] (zs.take 1232) = if 1652 < (zs.take 1232).length then ewE 3 else ewC (tbM true fr S size (zs.take 1232)) := rfl
        have hlong : ¬ 1652 < (zs.take 1232).length := by omega
        have hMl : (tbM true fr S size (zs.take 1232)).length = 8 + (zs.take 1232).length := by simp [tbM, w6M]; omega
        generalize tbM true fr S size (zs.take 1232) = M at *
        have hk : tbK true = 2 := rfl
        have hcc : tbC true = 0 := rfl
        rw [hk, hcc] at hgk hIW
        generalize hps : zs.take 1232 = ps at *
        rw [if_neg hlong] at hIW
        have hM5 : M.length ≤ 500000 := by omega
        have hMl2 : M.length ≤ 9223372036854775807 := by omega
        have hMt : M.take M.length = M := List.take_length
        rcases pk_form true fr S M with ⟨e, ne, hP⟩ | ⟨W, hP⟩
        · have hP2 : w6V 0 0 58 58 64 fr S [] M = ewE e := hP
          simp -implicitDefEqProofs [i1, hc, i2, i3, hnl, hnl2, hnl3, hgk, hps, hq, hq2, hz1, hzl, mS, mSb, hp, hr, hr1, hpi, fIW, hIW, hM5, hMl2, hMt, hP, hP2, fW6, fW4, ewE, ewC, asB8_nil'', asB8_cons'', cc, -B8_append, verA, fIse, ownP, fAHead, ahV, hdA, splice, B8vc, B8vn, IntKind.bits, Nat.testBit_eq_decide_div_mod_eq]
        · have hP2 : w6V 0 0 58 58 64 fr S [] M = ewC W := hP
          simp -implicitDefEqProofs [i1, hc, i2, i3, hnl, hnl2, hnl3, hgk, hps, hq, hq2, hz1, hzl, mS, mSb, hp, hr, hr1, hpi, fIW, hIW, hM5, hMl2, hMt, hP, hP2, fW6, fW4, ewE, ewC, asB8_nil'', asB8_cons'', cc, -B8_append, verA, fIse, ownP, fAHead, ahV, hdA, splice, B8vc, B8vn, IntKind.bits, Nat.testBit_eq_decide_div_mod_eq]
    · skip
      have hpi : ¬ (P = ownP true ∧ 0 < R.length ∧ isE true (gb R 0) = true) := fun h => by rw [hx] at h; exact absurd h.2.2 (by simp)
      have hr1 : (0 : Int) < (R.length : Int) := by omega
      have r1 := r0 hr
      by_cases mS : manyB true S = true
      · have mSb : (gb S 0 == 255) = true := by simpa [manyB] using mS
        simp -implicitDefEqProofs [hp, hr, hr1, hx, r1, g, hpi, mS, mSb, ewE, cc, -B8_append, verA, fIse, ownP, fAHead, ahV, hdA, splice, B8vc, B8vn, IntKind.bits, Nat.testBit_eq_decide_div_mod_eq]
      have mSb : (gb S 0 == 255) = false := by simpa [manyB] using mS
      by_cases hz0 : S = z16
      · have hz1 : (S = z16) = True := by simp [hz0]
        have hzl : (S = [0, 0, 0, 0, 0, 0, 0, 0, 0, 0, 0, 0, 0, 0, 0, 0]) = True := hz1
        simp -implicitDefEqProofs [hp, hr, hr1, hx, r1, g, hpi, mS, mSb, hz1, hzl, ewE, cc, -B8_append, verA, fIse, ownP, fAHead, ahV, hdA, splice, B8vc, B8vn, IntKind.bits, Nat.testBit_eq_decide_div_mod_eq]
      have hz1 : (S = z16) = False := by simp [hz0]
      have hzl : (S = [0, 0, 0, 0, 0, 0, 0, 0, 0, 0, 0, 0, 0, 0, 0, 0]) = False := hz1
      by_cases hq : size < 1280
      · have hq2 : size < leastP true := hq
        simp -implicitDefEqProofs [hp, hr, hr1, hx, r1, g, hpi, mS, mSb, hz1, hzl, hq, hq2, ewE, cc, -B8_append, verA, fIse, ownP, fAHead, ahV, hdA, splice, B8vc, B8vn, IntKind.bits, Nat.testBit_eq_decide_div_mod_eq]
      have hq2 : ¬ size < leastP true := hq
      have hTU : (T : Int) < (U : Int) ∨ ¬ (T : Int) < (U : Int) := Classical.em _
      by_cases hc : T < 1232
      · skip
        have i1 : (T : Int) < 1232 := by omega
        have i2 : ¬ (1232 : Int) < (T : Int) := by omega
        have i3 : ¬ 1232 < T := by omega
        have hn : T = n := by rw [hN]; simp [hc, i3]
        clear hN
        subst hn
        have hnl : T ≤ zs.length := by omega
        have hnl2 : ((T : Nat) : Int) ≤ (zs.length : Int) := by omega
        have hnl3 : (zs.take T).length = T := by simp; omega
        have hgk := hgi (tbK true) (tbC true) (by decide) (by decide) (by decide) (by decide) T hnl
        have hIW : iwV true fr S (tbK true) (tbC true) [0, 0, size / 256, size % 256] (zs.take T) = if 1652 < (zs.take T).length then ewE 3 else ewC (tbM true fr S size (zs.take T)) := rfl
        have hlong : ¬ 1652 < (zs.take T).length := by omega
        have hMl : (tbM true fr S size (zs.take T)).length = 8 + (zs.take T).length := by simp [tbM, w6M]; omega
        generalize tbM true fr S size (zs.take T) = M at *
        have hk : tbK true = 2 := rfl
        have hcc : tbC true = 0 := rfl
        rw [hk, hcc] at hgk hIW
        generalize hps : zs.take T = ps at *
        rw [if_neg hlong] at hIW
        have hM5 : M.length ≤ 500000 := by omega
        have hMl2 : M.length ≤ 9223372036854775807 := by omega
        have hMt : M.take M.length = M := List.take_length
        rcases pk_form true fr S M with ⟨e, ne, hP⟩ | ⟨W, hP⟩
        · have hP2 : w6V 0 0 58 58 64 fr S [] M = ewE e := hP
          simp -implicitDefEqProofs [i1, hc, i2, i3, hnl, hnl2, hnl3, hgk, hps, hq, hq2, hz1, hzl, mS, mSb, hp, hr, hr1, hx, r1, g, hpi, fIW, hIW, hM5, hMl2, hMt, hP, hP2, fW6, fW4, ewE, ewC, asB8_nil'', asB8_cons'', cc, -B8_append, verA, fIse, ownP, fAHead, ahV, hdA, splice, B8vc, B8vn, IntKind.bits, Nat.testBit_eq_decide_div_mod_eq]
        · have hP2 : w6V 0 0 58 58 64 fr S [] M = ewC W := hP
          simp -implicitDefEqProofs [i1, hc, i2, i3, hnl, hnl2, hnl3, hgk, hps, hq, hq2, hz1, hzl, mS, mSb, hp, hr, hr1, hx, r1, g, hpi, fIW, hIW, hM5, hMl2, hMt, hP, hP2, fW6, fW4, ewE, ewC, asB8_nil'', asB8_cons'', cc, -B8_append, verA, fIse, ownP, fAHead, ahV, hdA, splice, B8vc, B8vn, IntKind.bits, Nat.testBit_eq_decide_div_mod_eq]
      by_cases hc2 : 1232 < T
      · skip
        have hc := hc2
        have i1 : ¬ (T : Int) < 1232 := by omega
        have i2 : (1232 : Int) < (T : Int) := by omega
        have i3 : ¬ T < 1232 := by omega
        have hn : 1232 = n := by rw [hN]; simp [hc, i3]
        clear hN
        subst hn
        have hnl : 1232 ≤ zs.length := by omega
        have hnl2 : (1232 : Int) ≤ (zs.length : Int) := by omega
        have hnl3 : (zs.take 1232).length = 1232 := by simp; omega
        have hgk := hgi (tbK true) (tbC true) (by decide) (by decide) (by decide) (by decide) 1232 hnl
        have hIW : iwV true fr S (tbK true) (tbC true) [0, 0, size / 256, size % 256] (zs.take 1232) = if 1652 < (zs.take 1232).length then ewE 3 else ewC (tbM true fr S size (zs.take 1232)) := rfl
        have hlong : ¬ 1652 < (zs.take 1232).length := by omega
        have hMl : (tbM true fr S size (zs.take 1232)).length = 8 + (zs.take 1232).length := by simp [tbM, w6M]; omega
        generalize tbM true fr S size (zs.take 1232) = M at *
        have hk : tbK true = 2 := rfl
        have hcc : tbC true = 0 := rfl
        rw [hk, hcc] at hgk hIW
        generalize hps : zs.take 1232 = ps at *
        rw [if_neg hlong] at hIW
        have hM5 : M.length ≤ 500000 := by omega
        have hMl2 : M.length ≤ 9223372036854775807 := by omega
        have hMt : M.take M.length = M := List.take_length
        rcases pk_form true fr S M with ⟨e, ne, hP⟩ | ⟨W, hP⟩
        · have hP2 : w6V 0 0 58 58 64 fr S [] M = ewE e := hP
          simp -implicitDefEqProofs [i1, hc, i2, i3, hnl, hnl2, hnl3, hgk, hps, hq, hq2, hz1, hzl, mS, mSb, hp, hr, hr1, hx, r1, g, hpi, fIW, hIW, hM5, hMl2, hMt, hP, hP2, fW6, fW4, ewE, ewC, asB8_nil'', asB8_cons'', cc, -B8_append, verA, fIse, ownP, fAHead, ahV, hdA, splice, B8vc, B8vn, IntKind.bits, Nat.testBit_eq_decide_div_mod_eq]
        · have hP2 : w6V 0 0 58 58 64 fr S [] M = ewC W := hP
          simp -implicitDefEqProofs [i1, hc, i2, i3, hnl, hnl2, hnl3, hgk, hps, hq, hq2, hz1, hzl, mS, mSb, hp, hr, hr1, hx, r1, g, hpi, fIW, hIW, hM5, hMl2, hMt, hP, hP2, fW6, fW4, ewE, ewC, asB8_nil'', asB8_cons'', cc, -B8_append, verA, fIse, ownP, fAHead, ahV, hdA, splice, B8vc, B8vn, IntKind.bits, Nat.testBit_eq_decide_div_mod_eq]
      · skip
        have hT1 : T = 1232 := by omega
        subst hT1
        have i1 : True := trivial
        have i2 : True := trivial
        have i3 : True := trivial
        have hc : True := trivial
        have hn : 1232 = n := by rw [hN]; simp [hc]
        clear hN
        subst hn
        have hnl : 1232 ≤ zs.length := by omega
        have hnl2 : (1232 : Int) ≤ (zs.length : Int) := by omega
        have hnl3 : (zs.take 1232).length = 1232 := by simp; omega
        have hgk := hgi (tbK true) (tbC true) (by decide) (by decide) (by decide) (by decide) 1232 hnl
        have hIW : iwV true fr S (tbK true) (tbC true) [0, 0, size / 256, size % 256] (zs.take 1232) = if 1652 < (zs.take 1232).length then ewE 3 else ewC (tbM true fr S size (zs.take 1232)) := rfl
        have hlong : ¬ 1652 < (zs.take 1232).length := by omega
        have hMl : (tbM true fr S size (zs.take 1232)).length = 8 + (zs.take 1232).length := by simp [tbM, w6M]; omega
        generalize tbM true fr S size (zs.take 1232) = M at *
        have hk : tbK true = 2 := rfl
        have hcc : tbC true = 0 := rfl
        rw [hk, hcc] at hgk hIW
        generalize hps : zs.take 1232 = ps at *
        rw [if_neg hlong] at hIW
        have hM5 : M.length ≤ 500000 := by omega
        have hMl2 : M.length ≤ 9223372036854775807 := by omega
        have hMt : M.take M.length = M := List.take_length
        rcases pk_form true fr S M with ⟨e, ne, hP⟩ | ⟨W, hP⟩
        · have hP2 : w6V 0 0 58 58 64 fr S [] M = ewE e := hP
          simp -implicitDefEqProofs [i1, hc, i2, i3, hnl, hnl2, hnl3, hgk, hps, hq, hq2, hz1, hzl, mS, mSb, hp, hr, hr1, hx, r1, g, hpi, fIW, hIW, hM5, hMl2, hMt, hP, hP2, fW6, fW4, ewE, ewC, asB8_nil'', asB8_cons'', cc, -B8_append, verA, fIse, ownP, fAHead, ahV, hdA, splice, B8vc, B8vn, IntKind.bits, Nat.testBit_eq_decide_div_mod_eq]
        · have hP2 : w6V 0 0 58 58 64 fr S [] M = ewC W := hP
          simp -implicitDefEqProofs [i1, hc, i2, i3, hnl, hnl2, hnl3, hgk, hps, hq, hq2, hz1, hzl, mS, mSb, hp, hr, hr1, hx, r1, g, hpi, fIW, hIW, hM5, hMl2, hMt, hP, hP2, fW6, fW4, ewE, ewC, asB8_nil'', asB8_cons'', cc, -B8_append, verA, fIse, ownP, fAHead, ahV, hdA, splice, B8vc, B8vn, IntKind.bits, Nat.testBit_eq_decide_div_mod_eq]
  · by_cases hi : P = ownP false ∧ 0 < R.length ∧ isE false (gb R 0) = true
    · obtain ⟨hp, hr, hx⟩ := hi
      subst hp
      have hr1 : (0 : Int) < (R.length : Int) := by omega
      have r1 := r0 hr
      have g := (gb_range bR 0).1
      simp -implicitDefEqProofs [hr, hr1, hx, r1, g, ewE, cc, -B8_append, verA, fIse, ownP, fAHead, ahV, hdA, splice, B8vc, B8vn, IntKind.bits, Nat.testBit_eq_decide_div_mod_eq]
    have hi2 : (¬ P = 1) ∨ (P = 1 ∧ ¬ 0 < R.length) ∨ (P = 1 ∧ 0 < R.length ∧ isE false (gb R 0) = false) := by
      by_cases hp : P = 1
      · by_cases hr : 0 < R.length
        · refine .inr (.inr ⟨hp, hr, ?_⟩)
          cases hx : isE false (gb R 0) with
          | false => rfl
          | true => exact absurd ⟨hp, hr, hx⟩ hi
        · exact .inr (.inl ⟨hp, hr⟩)
      · exact .inl hp
    have g := (gb_range bR 0).1
    rcases hi2 with hp | ⟨hp, hr⟩ | ⟨hp, hr, hx⟩
    · skip
      have hpb : (P == 1) = false := by simp [hp]
      have hpi : ¬ (P = ownP false ∧ 0 < R.length ∧ isE false (gb R 0) = true) := fun h => hp h.1
      by_cases mS : manyB false S = true
      · have mSb :  224 ≤ gb S 0 := by simpa [manyB] using mS
        simp -implicitDefEqProofs [hp, hpb, hpi, mS, mSb, ewE, cc, -B8_append, verA, fIse, ownP, fAHead, ahV, hdA, splice, B8vc, B8vn, IntKind.bits, Nat.testBit_eq_decide_div_mod_eq]
      have mSb : ¬ 224 ≤ gb S 0 := by simpa [manyB] using mS
      by_cases hz0 : S = z16
      · have hz1 : (S = z16) = True := by simp [hz0]
        have hzl : (S = [0, 0, 0, 0, 0, 0, 0, 0, 0, 0, 0, 0, 0, 0, 0, 0]) = True := hz1
        simp -implicitDefEqProofs [hp, hpb, hpi, mS, mSb, hz1, hzl, ewE, cc, -B8_append, verA, fIse, ownP, fAHead, ahV, hdA, splice, B8vc, B8vn, IntKind.bits, Nat.testBit_eq_decide_div_mod_eq]
      have hz1 : (S = z16) = False := by simp [hz0]
      have hzl : (S = [0, 0, 0, 0, 0, 0, 0, 0, 0, 0, 0, 0, 0, 0, 0, 0]) = False := hz1
      by_cases hq : size < 68
      · have hq2 : size < leastP false := hq
        simp -implicitDefEqProofs [hp, hpb, hpi, mS, mSb, hz1, hzl, hq, hq2, ewE, cc, -B8_append, verA, fIse, ownP, fAHead, ahV, hdA, splice, B8vc, B8vn, IntKind.bits, Nat.testBit_eq_decide_div_mod_eq]
      have hq2 : ¬ size < leastP false := hq
      by_cases hc : T < U
      · skip
        have i1 : (T : Int) < (U : Int) := by omega
        have hn : T = n := by rw [hN]; simp [hc]
        clear hN
        subst hn
        have hnl : T ≤ zs.length := by omega
        have hnl2 : ((T : Nat) : Int) ≤ (zs.length : Int) := by omega
        have hnl3 : (zs.take T).length = T := by simp; omega
        have hgk := hgi (tbK false) (tbC false) (by decide) (by decide) (by decide) (by decide) T hnl
        have hIW : iwV false fr S (tbK false) (tbC false) [0, 0, size / 256, size % 256] (zs.take T) = if 1652 < (zs.take T).length then ewE 3 else ewC (tbM false fr S size (zs.take T)) := rfl
        have hlong : ¬ 1652 < (zs.take T).length := by have := hN4 rfl; omega
        have hMl : (tbM false fr S size (zs.take T)).length = 8 + (zs.take T).length := by simp [tbM, w6M]; omega
        generalize tbM false fr S size (zs.take T) = M at *
        have hk : tbK false = 3 := rfl
        have hcc : tbC false = 4 := rfl
        rw [hk, hcc] at hgk hIW
        generalize hps : zs.take T = ps at *
        rw [if_neg hlong] at hIW
        have hM5 : M.length ≤ 500000 := by omega
        have hMl2 : M.length ≤ 9223372036854775807 := by omega
        have hMt : M.take M.length = M := List.take_length
        rcases pk_form false fr S M with ⟨e, ne, hP⟩ | ⟨W, hP⟩
        · have hP2 : w4V 0 0 false 64 1 fr S [] M = ewE e := hP
          simp -implicitDefEqProofs [i1, hc, hnl, hnl2, hnl3, hgk, hps, hq, hq2, hz1, hzl, mS, mSb, hp, hpb, hpi, fIW, hIW, hM5, hMl2, hMt, hP, hP2, fW6, fW4, ewE, ewC, asB8_nil'', asB8_cons'', cc, -B8_append, verA, fIse, ownP, fAHead, ahV, hdA, splice, B8vc, B8vn, IntKind.bits, Nat.testBit_eq_decide_div_mod_eq]
        · have hP2 : w4V 0 0 false 64 1 fr S [] M = ewC W := hP
          simp -implicitDefEqProofs [i1, hc, hnl, hnl2, hnl3, hgk, hps, hq, hq2, hz1, hzl, mS, mSb, hp, hpb, hpi, fIW, hIW, hM5, hMl2, hMt, hP, hP2, fW6, fW4, ewE, ewC, asB8_nil'', asB8_cons'', cc, -B8_append, verA, fIse, ownP, fAHead, ahV, hdA, splice, B8vc, B8vn, IntKind.bits, Nat.testBit_eq_decide_div_mod_eq]
      · skip
        have i1 : ¬ (T : Int) < (U : Int) := by omega
        have hn : U = n := by rw [hN]; simp [hc]
        clear hN
        subst hn
        have hnl : U ≤ zs.length := by omega
        have hnl2 : ((U : Nat) : Int) ≤ (zs.length : Int) := by omega
        have hnl3 : (zs.take U).length = U := by simp; omega
        have hgk := hgi (tbK false) (tbC false) (by decide) (by decide) (by decide) (by decide) U hnl
        have hIW : iwV false fr S (tbK false) (tbC false) [0, 0, size / 256, size % 256] (zs.take U) = if 1652 < (zs.take U).length then ewE 3 else ewC (tbM false fr S size (zs.take U)) := rfl
        have hlong : ¬ 1652 < (zs.take U).length := by have := hN4 rfl; omega
        have hMl : (tbM false fr S size (zs.take U)).length = 8 + (zs.take U).length := by simp [tbM, w6M]; omega
        generalize tbM false fr S size (zs.take U) = M at *
        have hk : tbK false = 3 := rfl
        have hcc : tbC false = 4 := rfl
        rw [hk, hcc] at hgk hIW
        generalize hps : zs.take U = ps at *
        rw [if_neg hlong] at hIW
        have hM5 : M.length ≤ 500000 := by omega
        have hMl2 : M.length ≤ 9223372036854775807 := by omega
        have hMt : M.take M.length = M := List.take_length
        rcases pk_form false fr S M with ⟨e, ne, hP⟩ | ⟨W, hP⟩
        · have hP2 : w4V 0 0 false 64 1 fr S [] M = ewE e := hP
          simp -implicitDefEqProofs [i1, hc, hnl, hnl2, hnl3, hgk, hps, hq, hq2, hz1, hzl, mS, mSb, hp, hpb, hpi, fIW, hIW, hM5, hMl2, hMt, hP, hP2, fW6, fW4, ewE, ewC, asB8_nil'', asB8_cons'', cc, -B8_append, verA, fIse, ownP, fAHead, ahV, hdA, splice, B8vc, B8vn, IntKind.bits, Nat.testBit_eq_decide_div_mod_eq]
        · have hP2 : w4V 0 0 false 64 1 fr S [] M = ewC W := hP
          simp -implicitDefEqProofs [i1, hc, hnl, hnl2, hnl3, hgk, hps, hq, hq2, hz1, hzl, mS, mSb, hp, hpb, hpi, fIW, hIW, hM5, hMl2, hMt, hP, hP2, fW6, fW4, ewE, ewC, asB8_nil'', asB8_cons'', cc, -B8_append, verA, fIse, ownP, fAHead, ahV, hdA, splice, B8vc, B8vn, IntKind.bits, Nat.testBit_eq_decide_div_mod_eq]
    · skip
      have hpi : ¬ (P = ownP false ∧ 0 < R.length ∧ isE false (gb R 0) = true) := fun h => hr h.2.1
      have hr1 : ¬ (0 : Int) < (R.length : Int) := by omega
      have hr2 : R.length = 0 := by omega
      by_cases mS : manyB false S = true
      · have mSb :  224 ≤ gb S 0 := by simpa [manyB] using mS
        simp -implicitDefEqProofs [hp, hr, hr1, hpi, mS, mSb, ewE, cc, -B8_append, verA, fIse, ownP, fAHead, ahV, hdA, splice, B8vc, B8vn, IntKind.bits, Nat.testBit_eq_decide_div_mod_eq]
      have mSb : ¬ 224 ≤ gb S 0 := by simpa [manyB] using mS
      by_cases hz0 : S = z16
      · have hz1 : (S = z16) = True := by simp [hz0]
        have hzl : (S = [0, 0, 0, 0, 0, 0, 0, 0, 0, 0, 0, 0, 0, 0, 0, 0]) = True := hz1
        simp -implicitDefEqProofs [hp, hr, hr1, hpi, mS, mSb, hz1, hzl, ewE, cc, -B8_append, verA, fIse, ownP, fAHead, ahV, hdA, splice, B8vc, B8vn, IntKind.bits, Nat.testBit_eq_decide_div_mod_eq]
      have hz1 : (S = z16) = False := by simp [hz0]
      have hzl : (S = [0, 0, 0, 0, 0, 0, 0, 0, 0, 0, 0, 0, 0, 0, 0, 0]) = False := hz1
      by_cases hq : size < 68
      · have hq2 : size < leastP false := hq
        simp -implicitDefEqProofs [hp, hr, hr1, hpi, mS, mSb, hz1, hzl, hq, hq2, ewE, cc, -B8_append, verA, fIse, ownP, fAHead, ahV, hdA, splice, B8vc, B8vn, IntKind.bits, Nat.testBit_eq_decide_div_mod_eq]
      have hq2 : ¬ size < leastP false := hq
      by_cases hc : T < U
      · skip
        have i1 : (T : Int) < (U : Int) := by omega
        have hn : T = n := by rw [hN]; simp [hc]
        clear hN
        subst hn
        have hnl : T ≤ zs.length := by omega
        have hnl2 : ((T : Nat) : Int) ≤ (zs.length : Int) := by omega
        have hnl3 : (zs.take T).length = T := by simp; omega
        have hgk := hgi (tbK false) (tbC false) (by decide) (by decide) (by decide) (by decide) T hnl
        have hIW : iwV false fr S (tbK false) (tbC false) [0, 0, size / 256, size % 256] (zs.take T) = if 1652 < (zs.take T).length then ewE 3 else ewC (tbM false fr S size (zs.take T)) := rfl
        have hlong : ¬ 1652 < (zs.take T).length := by have := hN4 rfl; omega
        have hMl : (tbM false fr S size (zs.take T)).length = 8 + (zs.take T).length := by simp [tbM, w6M]; omega
        generalize tbM false fr S size (zs.take T) = M at *
        have hk : tbK false = 3 := rfl
        have hcc : tbC false = 4 := rfl
        rw [hk, hcc] at hgk hIW
        generalize hps : zs.take T = ps at *
        rw [if_neg hlong] at hIW
        have hM5 : M.length ≤ 500000 := by omega
        have hMl2 : M.length ≤ 9223372036854775807 := by omega
        have hMt : M.take M.length = M := List.take_length
        rcases pk_form false fr S M with ⟨e, ne, hP⟩ | ⟨W, hP⟩
        · have hP2 : w4V 0 0 false 64 1 fr S [] M = ewE e := hP
          simp -implicitDefEqProofs [i1, hc, hnl, hnl2, hnl3, hgk, hps, hq, hq2, hz1, hzl, mS, mSb, hp, hr, hr1, hpi, fIW, hIW, hM5, hMl2, hMt, hP, hP2, fW6, fW4, ewE, ewC, asB8_nil'', asB8_cons'', cc, -B8_append, verA, fIse, ownP, fAHead, ahV, hdA, splice, B8vc, B8vn, IntKind.bits, Nat.testBit_eq_decide_div_mod_eq]
        · have hP2 : w4V 0 0 false 64 1 fr S [] M = ewC W := hP
          simp -implicitDefEqProofs [i1, hc, hnl, hnl2, hnl3, hgk, hps, hq, hq2, hz1, hzl, mS, mSb, hp, hr, hr1, hpi, fIW, hIW, hM5, hMl2, hMt, hP, hP2, fW6, fW4, ewE, ewC, asB8_nil'', asB8_cons'', cc, -B8_append, verA, fIse, ownP, fAHead, ahV, hdA, splice, B8vc, B8vn, IntKind.bits, Nat.testBit_eq_decide_div_mod_eq]
      · skip
        have i1 : ¬ (T : Int) < (U : Int) := by omega
        have hn : U = n := by rw [hN]; simp [hc]
        clear hN
        subst hn
        have hnl : U ≤ zs.length := by omega
        have hnl2 : ((U : Nat) : Int) ≤ (zs.length : Int) := by omega
        have hnl3 : (zs.take U).length = U := by simp; omega
        have hgk := hgi (tbK false) (tbC false) (by decide) (by decide) (by decide) (by decide) U hnl
        have hIW : iwV false fr S (tbK false) (tbC false) [0, 0, size / 256, size % 256] (zs.take U) = if 1652 < (zs.take U).length then ewE 3 else ewC (tbM false fr S size (zs.take U)) := rfl
        have hlong : ¬ 1652 < (zs.take U).length := by have := hN4 rfl; omega
        have hMl : (tbM false fr S size (zs.take U)).length = 8 + (zs.take U).length := by simp [tbM, w6M]; omega
        generalize tbM false fr S size (zs.take U) = M at *
        have hk : tbK false = 3 := rfl
        have hcc : tbC false = 4 := rfl
        rw [hk, hcc] at hgk hIW
        generalize hps : zs.take U = ps at *
        rw [if_neg hlong] at hIW
        have hM5 : M.length ≤ 500000 := by omega
        have hMl2 : M.length ≤ 9223372036854775807 := by omega
        have hMt : M.take M.length = M := List.take_length
        rcases pk_form false fr S M with ⟨e, ne, hP⟩ | ⟨W, hP⟩
        · have hP2 : w4V 0 0 false 64 1 fr S [] M = ewE e := hP
          simp -implicitDefEqProofs [i1, hc, hnl, hnl2, hnl3, hgk, hps, hq, hq2, hz1, hzl, mS, mSb, hp, hr, hr1, hpi, fIW, hIW, hM5, hMl2, hMt, hP, hP2, fW6, fW4, ewE, ewC, asB8_nil'', asB8_cons'', cc, -B8_append, verA, fIse, ownP, fAHead, ahV, hdA, splice, B8vc, B8vn, IntKind.bits, Nat.testBit_eq_decide_div_mod_eq]
        · have hP2 : w4V 0 0 false 64 1 fr S [] M = ewC W := hP
          simp -implicitDefEqProofs [i1, hc, hnl, hnl2, hnl3, hgk, hps, hq, hq2, hz1, hzl, mS, mSb, hp, hr, hr1, hpi, fIW, hIW, hM5, hMl2, hMt, hP, hP2, fW6, fW4, ewE, ewC, asB8_nil'', asB8_cons'', cc, -B8_append, verA, fIse, ownP, fAHead, ahV, hdA, splice, B8vc, B8vn, IntKind.bits, Nat.testBit_eq_decide_div_mod_eq]
    · skip
      have hpi : ¬ (P = ownP false ∧ 0 < R.length ∧ isE false (gb R 0) = true) := fun h => by rw [hx] at h; exact absurd h.2.2 (by simp)
      have hr1 : (0 : Int) < (R.length : Int) := by omega
      have r1 := r0 hr
      by_cases mS : manyB false S = true
      · have mSb :  224 ≤ gb S 0 := by simpa [manyB] using mS
        simp -implicitDefEqProofs [hp, hr, hr1, hx, r1, g, hpi, mS, mSb, ewE, cc, -B8_append, verA, fIse, ownP, fAHead, ahV, hdA, splice, B8vc, B8vn, IntKind.bits, Nat.testBit_eq_decide_div_mod_eq]
      have mSb : ¬ 224 ≤ gb S 0 := by simpa [manyB] using mS
      by_cases hz0 : S = z16
      · have hz1 : (S = z16) = True := by simp [hz0]
        have hzl : (S = [0, 0, 0, 0, 0, 0, 0, 0, 0, 0, 0, 0, 0, 0, 0, 0]) = True := hz1
        simp -implicitDefEqProofs [hp, hr, hr1, hx, r1, g, hpi, mS, mSb, hz1, hzl, ewE, cc, -B8_append, verA, fIse, ownP, fAHead, ahV, hdA, splice, B8vc, B8vn, IntKind.bits, Nat.testBit_eq_decide_div_mod_eq]
      have hz1 : (S = z16) = False := by simp [hz0]
      have hzl : (S = [0, 0, 0, 0, 0, 0, 0, 0, 0, 0, 0, 0, 0, 0, 0, 0]) = False := hz1
      by_cases hq : size < 68
      · have hq2 : size < leastP false := hq
        simp -implicitDefEqProofs [hp, hr, hr1, hx, r1, g, hpi, mS, mSb, hz1, hzl, hq, hq2, ewE, cc, -B8_append, verA, fIse, ownP, fAHead, ahV, hdA, splice, B8vc, B8vn, IntKind.bits, Nat.testBit_eq_decide_div_mod_eq]
      have hq2 : ¬ size < leastP false := hq
      by_cases hc : T < U
      · skip
        have i1 : (T : Int) < (U : Int) := by omega
        have hn : T = n := by rw [hN]; simp [hc]
        clear hN
        subst hn
        have hnl : T ≤ zs.length := by omega
        have hnl2 : ((T : Nat) : Int) ≤ (zs.length : Int) := by omega
        have hnl3 : (zs.take T).length = T := by simp; omega
        have hgk := hgi (tbK false) (tbC false) (by decide) (by decide) (by decide) (by decide) T hnl
        have hIW : iwV false fr S (tbK false) (tbC false) [0, 0, size / 256, size % 256] (zs.take T) = if 1652 < (zs.take T).length then ewE 3 else ewC (tbM false fr S size (zs.take T)) := rfl
        have hlong : ¬ 1652 < (zs.take T).length := by have := hN4 rfl; omega
        have hMl : (tbM false fr S size (zs.take T)).length = 8 + (zs.take T).length := by simp [tbM, w6M]; omega
        generalize tbM false fr S size (zs.take T) = M at *
        have hk : tbK false = 3 := rfl
        have hcc : tbC false = 4 := rfl
        rw [hk, hcc] at hgk hIW
        generalize hps : zs.take T = ps at *
        rw [if_neg hlong] at hIW
        have hM5 : M.length ≤ 500000 := by omega
        have hMl2 : M.length ≤ 9223372036854775807 := by omega
        have hMt : M.take M.length = M := List.take_length
        rcases pk_form false fr S M with ⟨e, ne, hP⟩ | ⟨W, hP⟩
        · have hP2 : w4V 0 0 false 64 1 fr S [] M = ewE e := hP
          simp -implicitDefEqProofs [i1, hc, hnl, hnl2, hnl3, hgk, hps, hq, hq2, hz1, hzl, mS, mSb, hp, hr, hr1, hx, r1, g, hpi, fIW, hIW, hM5, hMl2, hMt, hP, hP2, fW6, fW4, ewE, ewC, asB8_nil'', asB8_cons'', cc, -B8_append, verA, fIse, ownP, fAHead, ahV, hdA, splice, B8vc, B8vn, IntKind.bits, Nat.testBit_eq_decide_div_mod_eq]
        · have hP2 : w4V 0 0 false 64 1 fr S [] M = ewC W := hP
          simp -implicitDefEqProofs [i1, hc, hnl, hnl2, hnl3, hgk, hps, hq, hq2, hz1, hzl, mS, mSb, hp, hr, hr1, hx, r1, g, hpi, fIW, hIW, hM5, hMl2, hMt, hP, hP2, fW6, fW4, ewE, ewC, asB8_nil'', asB8_cons'', cc, -B8_append, verA, fIse, ownP, fAHead, ahV, hdA, splice, B8vc, B8vn, IntKind.bits, Nat.testBit_eq_decide_div_mod_eq]
      · skip
        have i1 : ¬ (T : Int) < (U : Int) := by omega
        have hn : U = n := by rw [hN]; simp [hc]
        clear hN
        subst hn
        have hnl : U ≤ zs.length := by omega
        have hnl2 : ((U : Nat) : Int) ≤ (zs.length : Int) := by omega
        have hnl3 : (zs.take U).length = U := by simp; omega
        have hgk := hgi (tbK false) (tbC false) (by decide) (by decide) (by decide) (by decide) U hnl
        have hIW : iwV false fr S (tbK false) (tbC false) [0, 0, size / 256, size % 256] (zs.take U) = if 1652 < (zs.take U).length then ewE 3 else ewC (tbM false fr S size (zs.take U)) := rfl
        have hlong : ¬ 1652 < (zs.take U).length := by have := hN4 rfl; omega
        have hMl : (tbM false fr S size (zs.take U)).length = 8 + (zs.take U).length := by simp [tbM, w6M]; omega
        generalize tbM false fr S size (zs.take U) = M at *
        have hk : tbK false = 3 := rfl
        have hcc : tbC false = 4 := rfl
        rw [hk, hcc] at hgk hIW
        generalize hps : zs.take U = ps at *
        rw [if_neg hlong] at hIW
        have hM5 : M.length ≤ 500000 := by omega
        have hMl2 : M.length ≤ 9223372036854775807 := by omega
        have hMt : M.take M.length = M := List.take_length
        rcases pk_form false fr S M with ⟨e, ne, hP⟩ | ⟨W, hP⟩
        · have hP2 : w4V 0 0 false 64 1 fr S [] M = ewE e := hP
          simp -implicitDefEqProofs [i1, hc, hnl, hnl2, hnl3, hgk, hps, hq, hq2, hz1, hzl, mS, mSb, hp, hr, hr1, hx, r1, g, hpi, fIW, hIW, hM5, hMl2, hMt, hP, hP2, fW6, fW4, ewE, ewC, asB8_nil'', asB8_cons'', cc, -B8_append, verA, fIse, ownP, fAHead, ahV, hdA, splice, B8vc, B8vn, IntKind.bits, Nat.testBit_eq_decide_div_mod_eq]
        · have hP2 : w4V 0 0 false 64 1 fr S [] M = ewC W := hP
          simp -implicitDefEqProofs [i1, hc, hnl, hnl2, hnl3, hgk, hps, hq, hq2, hz1, hzl, mS, mSb, hp, hr, hr1, hx, r1, g, hpi, fIW, hIW, hM5, hMl2, hMt, hP, hP2, fW6, fW4, ewE, ewC, asB8_nil'', asB8_cons'', cc, -B8_append, verA, fIse, ownP, fAHead, ahV, hdA, splice, B8vc, B8vn, IntKind.bits, Nat.testBit_eq_decide_div_mod_eq]
theorem abig_pure : Pure Try.prog 48 fATooBig := (runF_pure kat_ok follows_mixed dm_ok 100000 3 48).weaken fun args r h => by
  unfold fATooBig at h
  split at h
  · rename_i nn b len cap a size
    obtain ⟨zs, hz, h1⟩ := Option.bind_eq_some_iff.1 h
    obtain ⟨fr, hf, he⟩ := Option.bind_eq_some_iff.1 h1
    clear h h1
    split at he
    case isFalse => cases he
    rename_i hh
    obtain ⟨rfl, x1, x2, x3, x4, x5, x6⟩ := hh
    obtain rfl := asB8_eq hz
    obtain rfl := asB8_eq hf
    rw [← he]
    exact abig_run zs fr size nn cap x1 x2 x3 x4 x5 x6
  · cases h
end Go.Proofs.Ytmdafjegddnecaa
