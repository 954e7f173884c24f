import Derived.Test.YtmdafjegddnecaaMg
import Derived.Test.YtmdafjegddnecaaMe
import Derived.Test.YtmdafjegddnecaaMc
import Derived.Test.YtmdafjegddnecaaMu
import Derived.Test.YtmdafjegddnecaaMf
import Derived.Test.YtmdafjegddnecaaMd
/- What an IP packet says: answer.read and the reference's head as functions of values. -/
namespace Go.Proofs.Ytmdafjegddnecaa
open Go.Pm Go.Wb
set_option linter.unusedVariables false
set_option linter.unusedSimpArgs false
set_option maxRecDepth 1000000
noncomputable def KAH : Nat → Option Con
  | 52 => some fIP4
  | 130 => some fIP4
  | 22 => some fIP6
  | 129 => some fIP6
  | _ => none
theorem kah_ok : KOk Try.prog KAH := fun f F h => by
  unfold KAH at h
  split at h
  · cases h; exact ⟨ip4_pure, _, Try.func52, rfl, by decide⟩
  · cases h; exact ⟨rip4_pure, _, Try.func130, rfl, by decide⟩
  · cases h; exact ⟨ip6_pure, _, Try.func22, rfl, by decide⟩
  · cases h; exact ⟨rip6_pure, _, Try.func129, rfl, by decide⟩
  · cases h
section
variable {D : FuncId → Nat → List Nat} {L d px : Nat} {args : List AV} {m : Mem}
theorem ckah_ip4 : pvCall Try.prog KAH D L d px 52 args m = callBy fIP4 m px args := pvCall_by rfl
theorem ckah_rip4 : pvCall Try.prog KAH D L d px 130 args m = callBy fIP4 m px args := pvCall_by rfl
theorem ckah_ip6 : pvCall Try.prog KAH D L d px 22 args m = callBy fIP6 m px args := pvCall_by rfl
theorem ckah_rip6 : pvCall Try.prog KAH D L d px 129 args m = callBy fIP6 m px args := pvCall_by rfl
end
theorem ekah_ip4 : KAH 52 = some (.pure fIP4) := rfl
theorem ekah_rip4 : KAH 130 = some (.pure fIP4) := rfl
theorem ekah_ip6 : KAH 22 = some (.pure fIP6) := rfl
theorem ekah_rip6 : KAH 129 = some (.pure fIP6) := rfl
attribute [simp] ckah_ip4 ekah_ip4 ckah_rip4 ekah_rip4 ckah_ip6 ekah_ip6 ckah_rip6 ekah_rip6
def an6 (zs : List Int) : Bool := decide (gb zs 0 / 16 = 6)
def anBad (zs : List Int) : Prop := zs.length = 0 ∨ (¬ gb zs 0 / 16 = 4 ∧ ¬ gb zs 0 / 16 = 6)
instance (zs : List Int) : Decidable (anBad zs) := by unfold anBad; infer_instance
def anC (zs : List Int) : Int × Int × Int := chainF 9 (gb zs 6) ((zs.drop 40).take (len6 zs)) 0 0
def an6E (zs : List Int) : Int := if zs.length < 40 then 4 else if ¬ gb zs 0 / 16 = 6 then 5 else if zs.length < 40 + len6 zs then 4 else (anC zs).2.2
def anE (zs : List Int) : Int := if an6 zs = true then an6E zs else chk4 zs
def anS (zs : List Int) : List Int := if an6 zs = true then (zs.drop 8).take 16 else ad4 (zs.drop 12)
def anD (zs : List Int) : List Int := if an6 zs = true then (zs.drop 24).take 16 else ad4 (zs.drop 16)
def anP (zs : List Int) : Int := if an6 zs = true then (anC zs).1 else gb zs 9
def anN (zs : List Int) : Nat := if an6 zs = true then 40 + (anC zs).2.1.toNat else hl4 zs
def anR (zs : List Int) : List Int := if an6 zs = true then (zs.drop (40 + (anC zs).2.1.toNat)).take (len6 zs - (anC zs).2.1.toNat) else (zs.drop (hl4 zs)).take ((w16 zs 2).toNat - hl4 zs)
def hdA (v6 : Bool) (S D : List Int) (pr n : Int) (rest : AV) : AV := .agg (.v (.bool v6) :: (B8 S ++ (B8 D ++ [.v (.int .u8 pr), .v (.int .i64 n), rest])))
def anHd (zs : List Int) : AV := if anBad zs then hdA false z16 z16 0 0 (.v (.slice none 0 0)) else if ¬ anE zs = 0 then hdA (an6 zs) z16 z16 0 (if an6 zs = true then 40 else 20) (.v (.slice none 0 0)) else hdA (an6 zs) (anS zs) (anD zs) (anP zs) (anN zs) (.own 0 0 0 (anR zs).length 1 (.whole 5))
def anEr (zs : List Int) : Int := if anBad zs then 5 else anE zs
def anB (zs : List Int) : List (List AV) := if anEr zs = 0 then [B8 (anR zs)] else []
def arhV (zs : List Int) : AV × List (List AV) := (.tup [anHd zs, .v (.int .i64 (anEr zs))], anB zs)
def verA (v6 : Bool) : AV := if v6 = true then .agg [.v (.int .u8 128), .v (.int .u8 129), .v (.int .u8 58), .v (.int .u16 1280), .fn (.func 173) [] [], .fn (.func 174) [] [], .fn (.func 175) [] []] else .agg [.v (.int .u8 8), .v (.int .u8 0), .v (.int .u8 1), .v (.int .u16 68), .fn (.func 170) [] [], .fn (.func 171) [] [], .fn (.func 172) [] []]
def noVer : AV := .agg [.v (.int .u8 0), .v (.int .u8 0), .v (.int .u8 0), .v (.int .u16 0), .v .nilFunc, .v .nilFunc, .v .nilFunc]
def anVer (zs : List Int) : AV := if anBad zs then noVer else verA (an6 zs)
def ahV (zs : List Int) : AV × List (List AV) := (.tup [anHd zs, anVer zs, .v (.int .i64 (anEr zs))], anB zs)
theorem B8d35 {ss : List Int} (h : ss.length = 16) (T : List AV) : (B8 ss ++ T).drop 35 = T.drop 19 := by
  rw [show (35 : Nat) = 16 + 19 from rfl, ← List.drop_drop, B8d16 h]
theorem B8d19 {ss : List Int} (h : ss.length = 16) (T : List AV) : (B8 ss ++ T).drop 19 = T.drop 3 := by
  rw [show (19 : Nat) = 16 + 3 from rfl, ← List.drop_drop, B8d16 h]
theorem B8t35 {ss : List Int} (h : ss.length = 16) (T : List AV) : (B8 ss ++ T).take 35 = B8 ss ++ T.take 19 := by
  rw [List.take_append, B8_length, h, List.take_of_length_le (by simp [h])]
theorem B8t19 {ss : List Int} (h : ss.length = 16) (T : List AV) : (B8 ss ++ T).take 19 = B8 ss ++ T.take 3 := by
  rw [List.take_append, B8_length, h, List.take_of_length_le (by simp [h])]
theorem ip6V_e {zs : List Int} (h6 : gb zs 0 / 16 = 6) : ip6V zs = if an6E zs = 0 then ip6R zs (anC zs).1 (anC zs).2.1.toNat (len6 zs) else err6 (an6E zs) := by
  unfold ip6V an6E anC
  by_cases h1 : zs.length < 40
  · simp [h1]
  by_cases h2 : zs.length < 40 + len6 zs
  · simp [h1, h2, h6]
  simp [h1, h2, h6]
theorem an6E_ok {zs : List Int} (h6 : gb zs 0 / 16 = 6) (h : an6E zs = 0) : 40 ≤ zs.length ∧ 40 + len6 zs ≤ zs.length ∧ (anC zs).2.2 = 0 := by
  unfold an6E at h
  by_cases h1 : zs.length < 40
  · simp [h1] at h
  by_cases h2 : zs.length < 40 + len6 zs
  · simp [h1, h2, h6] at h
  simp [h1, h2, h6] at h
  exact ⟨by omega, by omega, h⟩
theorem an6_n {zs : List Int} (hz : bytesB zs = true) (h6 : gb zs 0 / 16 = 6) (h : an6E zs = 0) : (anC zs).2.1.toNat ≤ len6 zs := by
  obtain ⟨_, hL, hc⟩ := an6E_ok h6 h
  rcases chain6_out hz hL _ rfl with ⟨h1, _⟩ | ⟨h1, n, h2, h3, _⟩
  · exact absurd hc h1
  · unfold anC; rw [h2]; exact h3
set_option maxHeartbeats 32000000 in
theorem arhead_run (zs : List Int) (nn : Bool) (cap : Option Nat) (hl : zs.length ≤ 500000) (hz : bytesB zs = true) : runF Try.prog KAH Dm 100000 1 104 [.sl nn (B8 zs) zs.length cap] = some (arhV zs) := by
  have g := gb_range hz 0
  have d1 : (gb zs 0).tdiv 16 = gb zs 0 / 16 := Int.tdiv_eq_ediv_of_nonneg g.1
  have d2 : (gb zs 0).fdiv 16 = gb zs 0 / 16 := Int.fdiv_eq_ediv_of_nonneg _ (by omega)
  have d3 : IntKind.u8.wrap (gb zs 0 / 16) = gb zs 0 / 16 := wrapu8_id (by omega) (by omega)
  have hg : zs.length = zs.length ∧ zs.length ≤ 500000 ∧ bytesB zs = true := ⟨rfl, hl, hz⟩
  have c6 : IntKind.u8.wrap 6 = 6 := by decide
  have c4 : IntKind.u8.wrap 4 = 4 := by decide
  unfold runF arhV anHd anB anEr
  rw [pvCall_own (fn := Try.f104) rfl Try.func104 rfl (by decide) rfl rfl (by simp)]
  by_cases hb : anBad zs
  · simp only [if_pos hb]
    by_cases h0 : zs.length = 0
    · obtain rfl := List.length_eq_zero_iff.1 h0
      simp -implicitDefEqProofs [hb, hdA, z16, splice, B8vc, B8vn]
    have hc : ¬ gb zs 0 / 16 = 4 ∧ ¬ gb zs 0 / 16 = 6 := by rcases hb with h | h; exact absurd h h0; exact h
    have n4 : (gb zs 0 / 16 != 4) = true := by simp [hc.1]
    have n6 : (gb zs 0 / 16 != 6) = true := by simp [hc.2]
    have i0 : ¬ (zs.length : Int) = 0 := by omega
    have jb : ((zs.length : Int) == 0) = false := by simp [h0]
    have j0 : (0 : Int) < (zs.length : Int) := by omega
    have l0 : 0 < zs.length := by omega
    have a0 := B8_at00 zs (by omega)
    simp -implicitDefEqProofs [h0, i0, jb, j0, l0, a0, d1, d2, d3, c4, c6, hb, hc.1, hc.2, n4, n6, hdA, z16, splice, B8vc, B8vn]
  simp only [if_neg hb]
  have h0 : ¬ zs.length = 0 := fun h => hb (.inl h)
  have i0 : ¬ (zs.length : Int) = 0 := by omega
  have jb : ((zs.length : Int) == 0) = false := by simp [h0]
  have j0 : (0 : Int) < (zs.length : Int) := by omega
  have l0 : 0 < zs.length := by omega
  have a0 := B8_at00 zs (by omega)
  by_cases h6 : gb zs 0 / 16 = 6
  · have hV := ip6V_e h6
    have hv : an6 zs = true := by simp [an6, h6]
    have hE : anE zs = an6E zs := by unfold anE; rw [if_pos hv]
    rw [hE]
    by_cases he : an6E zs = 0
    case neg =>
      rw [if_neg he] at hV
      simp -implicitDefEqProofs [ h0, i0, jb, j0, l0, a0, d1, d2, d3, c4, c6, h6, hv, he, hg, hV, fIP6, err6, noH6, ip6A, hdA, z16, splice, B8vc, B8vn]
    rw [if_pos he] at hV
    have hn := an6_n hz h6 he
    obtain ⟨h40, hL, _⟩ := an6E_ok h6 he
    have hA : (if ¬ an6E zs = 0 then hdA (an6 zs) z16 z16 0 (if an6 zs = true then 40 else 20) (.v (.slice none 0 0)) else hdA (an6 zs) (anS zs) (anD zs) (anP zs) (anN zs) (.own 0 0 0 (anR zs).length 1 (.whole 5))) = hdA true ((zs.drop 8).take 16) ((zs.drop 24).take 16) (anC zs).1 (40 + ((anC zs).2.1.toNat : Int)) (.own 0 0 0 (len6 zs - (anC zs).2.1.toNat) 1 (.whole 5)) := by
      rw [if_neg (by simp [he])]
      have hc : ((40 + (anC zs).2.1.toNat : Nat) : Int) = 40 + ((anC zs).2.1.toNat : Int) := by omega
      have hm : min (len6 zs - (anC zs).2.1.toNat) (zs.length - (40 + (anC zs).2.1.toNat)) = len6 zs - (anC zs).2.1.toNat := by omega
      simp only [anS, anD, anP, anN, anR, hv, if_true, List.length_take, List.length_drop, hc, hm]
    have hB : (if an6E zs = 0 then [B8 (anR zs)] else []) = [B8 ((zs.drop (40 + (anC zs).2.1.toNat)).take (len6 zs - (anC zs).2.1.toNat))] := by
      rw [if_pos he]; simp [anR, hv]
    rw [hA, hB]
    unfold ip6R ip6A at hV
    have hS : ((zs.drop 8).take 16).length = 16 := by simp; omega
    have hD : ((zs.drop 24).take 16).length = 16 := by simp; omega
    generalize (zs.drop 8).take 16 = S at *
    generalize (zs.drop 24).take 16 = E at *
    have hR : ((zs.drop (40 + (anC zs).2.1.toNat)).take (len6 zs - (anC zs).2.1.toNat)).length = len6 zs - (anC zs).2.1.toNat := by simp; omega
    generalize (zs.drop (40 + (anC zs).2.1.toNat)).take (len6 zs - (anC zs).2.1.toNat) = R at *
    have w1 : IntKind.i64.wrap (40 + ((anC zs).2.1.toNat : Int)) = 40 + ((anC zs).2.1.toNat : Int) := wrap64_id (by omega) (by omega)
    generalize (anC zs).2.1.toNat = n at *
    simp -implicitDefEqProofs [ h0, i0, jb, j0, l0, a0, d1, d2, d3, c4, c6, h6, hv, he, hg, hV, fIP6, hdA, splice, hS, hD, hR, w1, B8t16 hS, B8d16 hS, B8t16 hD, B8d16 hD, B8t33 hS, B8t17 hD, B8d32 hS, B8d32 hD, B8t32 hS, B8d33 hS, B8d17 hD, B8d34 hS, B8d18 hD, B8d35 hS, B8d19 hD, B8t35 hS, B8t19 hD, B8t34 hS, B8t18 hD, -B8_append]
  have h4 : gb zs 0 / 16 = 4 := Classical.byContradiction fun h => hb (.inr ⟨h, h6⟩)
  have hv : an6 zs = false := by simp [an6, h6]
  have hE : anE zs = chk4 zs := by unfold anE; rw [if_neg (by simp [hv])]
  rw [hE]
  by_cases he : chk4 zs = 0
  case neg =>
    simp -implicitDefEqProofs [ h0, i0, jb, j0, l0, a0, d1, d2, d3, c4, c6, h6, h4, hv, he, hg, ip4V, fIP4, err4, noH4, ip4A, hdA, z16, zz16, splice, B8vc, B8vn]
  obtain ⟨q1, q2, q3, q4, q5, q6, q7, q8, q9, q10⟩ := chk4_ok he
  have hA : (if ¬ chk4 zs = 0 then hdA (an6 zs) z16 z16 0 (if an6 zs = true then 40 else 20) (.v (.slice none 0 0)) else hdA (an6 zs) (anS zs) (anD zs) (anP zs) (anN zs) (.own 0 0 0 (anR zs).length 1 (.whole 5))) = hdA false (ad4 (zs.drop 12)) (ad4 (zs.drop 16)) (gb zs 9) (hl4 zs : Int) (.own 0 0 0 ((w16 zs 2).toNat - hl4 zs) 1 (.whole 5)) := by
    rw [if_neg (by simp [he])]
    have hm : min ((w16 zs 2).toNat - hl4 zs) (zs.length - hl4 zs) = (w16 zs 2).toNat - hl4 zs := by omega
    simp only [anS, anD, anP, anN, anR, hv, if_false, Bool.false_eq_true, List.length_take, List.length_drop, hm]
  have hB : (if chk4 zs = 0 then [B8 (anR zs)] else []) = [B8 ((zs.drop (hl4 zs)).take ((w16 zs 2).toNat - hl4 zs))] := by
    rw [if_pos he]; simp [anR, hv]
  rw [hA, hB]
  have hV : ip4V zs = ip4R zs (hl4 zs) (w16 zs 2).toNat := by unfold ip4V; rw [if_pos he]
  unfold ip4R ip4A at hV
  have hS : (ad4 (zs.drop 12)).length = 16 := rfl
  have hD : (ad4 (zs.drop 16)).length = 16 := rfl
  generalize ad4 (zs.drop 12) = S at *
  generalize ad4 (zs.drop 16) = E at *
  have hR : ((zs.drop (hl4 zs)).take ((w16 zs 2).toNat - hl4 zs)).length = (w16 zs 2).toNat - hl4 zs := by simp; omega
  generalize (zs.drop (hl4 zs)).take ((w16 zs 2).toNat - hl4 zs) = R at *
  have w1 : IntKind.i64.wrap (20 + ((hl4 zs - 20 : Nat) : Int)) = (hl4 zs : Int) := by rw [wrap64_id (by omega) (by omega)]; omega
  simp -implicitDefEqProofs [ h0, i0, jb, j0, l0, a0, d1, d2, d3, c4, c6, h6, h4, hv, he, hg, hV, fIP4, hdA, splice, hS, hD, hR, w1, B8t16 hS, B8d16 hS, B8t16 hD, B8d16 hD, B8t33 hS, B8t17 hD, B8d32 hS, B8d32 hD, B8t32 hS, B8d33 hS, B8d17 hD, B8d34 hS, B8d18 hD, B8d35 hS, B8d19 hD, B8t35 hS, B8t19 hD, B8t34 hS, B8t18 hD, -B8_append]
set_option maxHeartbeats 32000000 in
theorem ahead_run (zs : List Int) (nn : Bool) (cap : Option Nat) (hl : zs.length ≤ 500000) (hz : bytesB zs = true) : runF Try.prog KAH Dm 100000 3 102 [.sl nn (B8 zs) zs.length cap] = some (ahV zs) := by
  have hof := fun (px : Nat) (args : List AV) (m : Mem) (hl : args.length ≤ Try.f94.ntmps) => pvCall_own (P := Try.prog) (K := KAH) (D := Dm) (L := 100000) (d := 1) (px := px) (args := args) (m := m) (f := 94) (fn := Try.f94) rfl Try.func94 rfl (by decide) rfl rfl hl
  have hve := fun (px : Nat) (args : List AV) (m : Mem) (hl : args.length ≤ Try.f141.ntmps) => pvCall_own (P := Try.prog) (K := KAH) (D := Dm) (L := 100000) (d := 0) (px := px) (args := args) (m := m) (f := 141) (fn := Try.f141) rfl Try.func141 rfl (by decide) rfl rfl hl
  have h4f := fun (px : Nat) (args : List AV) (m : Mem) (hl : args.length ≤ Try.f170.ntmps) => pvCall_own (P := Try.prog) (K := KAH) (D := Dm) (L := 100000) (d := 1) (px := px) (args := args) (m := m) (f := 170) (fn := Try.f170) rfl Try.func170 rfl (by decide) rfl rfl hl
  have h6f := fun (px : Nat) (args : List AV) (m : Mem) (hl : args.length ≤ Try.f173.ntmps) => pvCall_own (P := Try.prog) (K := KAH) (D := Dm) (L := 100000) (d := 1) (px := px) (args := args) (m := m) (f := 173) (fn := Try.f173) rfl Try.func173 rfl (by decide) rfl rfl hl
  have g := gb_range hz 0
  have d1 : (gb zs 0).tdiv 16 = gb zs 0 / 16 := Int.tdiv_eq_ediv_of_nonneg g.1
  have d2 : (gb zs 0).fdiv 16 = gb zs 0 / 16 := Int.fdiv_eq_ediv_of_nonneg _ (by omega)
  have d3 : IntKind.u8.wrap (gb zs 0 / 16) = gb zs 0 / 16 := wrapu8_id (by omega) (by omega)
  have hg : zs.length = zs.length ∧ zs.length ≤ 500000 ∧ bytesB zs = true := ⟨rfl, hl, hz⟩
  have c6 : IntKind.u8.wrap 6 = 6 := by decide
  have c4 : IntKind.u8.wrap 4 = 4 := by decide
  unfold runF ahV anVer anHd anB anEr
  rw [pvCall_own (fn := Try.f102) rfl Try.func102 rfl (by decide) rfl rfl (by simp)]
  by_cases hb : anBad zs
  · simp only [if_pos hb]
    by_cases h0 : zs.length = 0
    · obtain rfl := List.length_eq_zero_iff.1 h0
      simp -implicitDefEqProofs [hof, hve, h4f, h6f, verA, noVer, IntKind.bits, Nat.testBit_eq_decide_div_mod_eq, hb, hdA, z16, splice, B8vc, B8vn]
    have hc : ¬ gb zs 0 / 16 = 4 ∧ ¬ gb zs 0 / 16 = 6 := by rcases hb with h | h; exact absurd h h0; exact h
    have n4 : (gb zs 0 / 16 != 4) = true := by simp [hc.1]
    have n6 : (gb zs 0 / 16 != 6) = true := by simp [hc.2]
    have i0 : ¬ (zs.length : Int) = 0 := by omega
    have jb : ((zs.length : Int) == 0) = false := by simp [h0]
    have j0 : (0 : Int) < (zs.length : Int) := by omega
    have l0 : 0 < zs.length := by omega
    have a0 := B8_at00 zs (by omega)
    simp -implicitDefEqProofs [hof, hve, h4f, h6f, verA, noVer, IntKind.bits, Nat.testBit_eq_decide_div_mod_eq, h0, i0, jb, j0, l0, a0, d1, d2, d3, c4, c6, hb, hc.1, hc.2, n4, n6, hdA, z16, splice, B8vc, B8vn]
  simp only [if_neg hb]
  have h0 : ¬ zs.length = 0 := fun h => hb (.inl h)
  have i0 : ¬ (zs.length : Int) = 0 := by omega
  have jb : ((zs.length : Int) == 0) = false := by simp [h0]
  have j0 : (0 : Int) < (zs.length : Int) := by omega
  have l0 : 0 < zs.length := by omega
  have a0 := B8_at00 zs (by omega)
  by_cases h6 : gb zs 0 / 16 = 6
  · have hV := ip6V_e h6
    have hv : an6 zs = true := by simp [an6, h6]
    have hE : anE zs = an6E zs := by unfold anE; rw [if_pos hv]
    rw [hE]
    by_cases he : an6E zs = 0
    case neg =>
      rw [if_neg he] at hV
      simp -implicitDefEqProofs [hof, hve, h4f, h6f, verA, noVer, IntKind.bits, Nat.testBit_eq_decide_div_mod_eq,  h0, i0, jb, j0, l0, a0, d1, d2, d3, c4, c6, h6, hv, he, hg, hV, fIP6, err6, noH6, ip6A, hdA, z16, splice, B8vc, B8vn]
    rw [if_pos he] at hV
    have hn := an6_n hz h6 he
    obtain ⟨h40, hL, _⟩ := an6E_ok h6 he
    have hA : (if ¬ an6E zs = 0 then hdA (an6 zs) z16 z16 0 (if an6 zs = true then 40 else 20) (.v (.slice none 0 0)) else hdA (an6 zs) (anS zs) (anD zs) (anP zs) (anN zs) (.own 0 0 0 (anR zs).length 1 (.whole 5))) = hdA true ((zs.drop 8).take 16) ((zs.drop 24).take 16) (anC zs).1 (40 + ((anC zs).2.1.toNat : Int)) (.own 0 0 0 (len6 zs - (anC zs).2.1.toNat) 1 (.whole 5)) := by
      rw [if_neg (by simp [he])]
      have hc : ((40 + (anC zs).2.1.toNat : Nat) : Int) = 40 + ((anC zs).2.1.toNat : Int) := by omega
      have hm : min (len6 zs - (anC zs).2.1.toNat) (zs.length - (40 + (anC zs).2.1.toNat)) = len6 zs - (anC zs).2.1.toNat := by omega
      simp only [anS, anD, anP, anN, anR, hv, if_true, List.length_take, List.length_drop, hc, hm]
    have hB : (if an6E zs = 0 then [B8 (anR zs)] else []) = [B8 ((zs.drop (40 + (anC zs).2.1.toNat)).take (len6 zs - (anC zs).2.1.toNat))] := by
      rw [if_pos he]; simp [anR, hv]
    rw [hA, hB]
    unfold ip6R ip6A at hV
    have hS : ((zs.drop 8).take 16).length = 16 := by simp; omega
    have hD : ((zs.drop 24).take 16).length = 16 := by simp; omega
    generalize (zs.drop 8).take 16 = S at *
    generalize (zs.drop 24).take 16 = E at *
    have hR : ((zs.drop (40 + (anC zs).2.1.toNat)).take (len6 zs - (anC zs).2.1.toNat)).length = len6 zs - (anC zs).2.1.toNat := by simp; omega
    generalize (zs.drop (40 + (anC zs).2.1.toNat)).take (len6 zs - (anC zs).2.1.toNat) = R at *
    have w1 : IntKind.i64.wrap (40 + ((anC zs).2.1.toNat : Int)) = 40 + ((anC zs).2.1.toNat : Int) := wrap64_id (by omega) (by omega)
    generalize (anC zs).2.1.toNat = n at *
    simp -implicitDefEqProofs [hof, hve, h4f, h6f, verA, noVer, IntKind.bits, Nat.testBit_eq_decide_div_mod_eq,  h0, i0, jb, j0, l0, a0, d1, d2, d3, c4, c6, h6, hv, he, hg, hV, fIP6, hdA, splice, hS, hD, hR, w1, B8t16 hS, B8d16 hS, B8t16 hD, B8d16 hD, B8t33 hS, B8t17 hD, B8d32 hS, B8d32 hD, B8t32 hS, B8d33 hS, B8d17 hD, B8d34 hS, B8d18 hD, B8d35 hS, B8d19 hD, B8t35 hS, B8t19 hD, B8t34 hS, B8t18 hD, -B8_append]
  have h4 : gb zs 0 / 16 = 4 := Classical.byContradiction fun h => hb (.inr ⟨h, h6⟩)
  have hv : an6 zs = false := by simp [an6, h6]
  have hE : anE zs = chk4 zs := by unfold anE; rw [if_neg (by simp [hv])]
  rw [hE]
  by_cases he : chk4 zs = 0
  case neg =>
    simp -implicitDefEqProofs [hof, hve, h4f, h6f, verA, noVer, IntKind.bits, Nat.testBit_eq_decide_div_mod_eq,  h0, i0, jb, j0, l0, a0, d1, d2, d3, c4, c6, h6, h4, hv, he, hg, ip4V, fIP4, err4, noH4, ip4A, hdA, z16, zz16, splice, B8vc, B8vn]
  obtain ⟨q1, q2, q3, q4, q5, q6, q7, q8, q9, q10⟩ := chk4_ok he
  have hA : (if ¬ chk4 zs = 0 then hdA (an6 zs) z16 z16 0 (if an6 zs = true then 40 else 20) (.v (.slice none 0 0)) else hdA (an6 zs) (anS zs) (anD zs) (anP zs) (anN zs) (.own 0 0 0 (anR zs).length 1 (.whole 5))) = hdA false (ad4 (zs.drop 12)) (ad4 (zs.drop 16)) (gb zs 9) (hl4 zs : Int) (.own 0 0 0 ((w16 zs 2).toNat - hl4 zs) 1 (.whole 5)) := by
    rw [if_neg (by simp [he])]
    have hm : min ((w16 zs 2).toNat - hl4 zs) (zs.length - hl4 zs) = (w16 zs 2).toNat - hl4 zs := by omega
    simp only [anS, anD, anP, anN, anR, hv, if_false, Bool.false_eq_true, List.length_take, List.length_drop, hm]
  have hB : (if chk4 zs = 0 then [B8 (anR zs)] else []) = [B8 ((zs.drop (hl4 zs)).take ((w16 zs 2).toNat - hl4 zs))] := by
    rw [if_pos he]; simp [anR, hv]
  rw [hA, hB]
  have hV : ip4V zs = ip4R zs (hl4 zs) (w16 zs 2).toNat := by unfold ip4V; rw [if_pos he]
  unfold ip4R ip4A at hV
  have hS : (ad4 (zs.drop 12)).length = 16 := rfl
  have hD : (ad4 (zs.drop 16)).length = 16 := rfl
  generalize ad4 (zs.drop 12) = S at *
  generalize ad4 (zs.drop 16) = E at *
  have hR : ((zs.drop (hl4 zs)).take ((w16 zs 2).toNat - hl4 zs)).length = (w16 zs 2).toNat - hl4 zs := by simp; omega
  generalize (zs.drop (hl4 zs)).take ((w16 zs 2).toNat - hl4 zs) = R at *
  have w1 : IntKind.i64.wrap (20 + ((hl4 zs - 20 : Nat) : Int)) = (hl4 zs : Int) := by rw [wrap64_id (by omega) (by omega)]; omega
  simp -implicitDefEqProofs [hof, hve, h4f, h6f, verA, noVer, IntKind.bits, Nat.testBit_eq_decide_div_mod_eq,  h0, i0, jb, j0, l0, a0, d1, d2, d3, c4, c6, h6, h4, hv, he, hg, hV, fIP4, hdA, splice, hS, hD, hR, w1, B8t16 hS, B8d16 hS, B8t16 hD, B8d16 hD, B8t33 hS, B8t17 hD, B8d32 hS, B8d32 hD, B8t32 hS, B8d33 hS, B8d17 hD, B8d34 hS, B8d18 hD, B8d35 hS, B8d19 hD, B8t35 hS, B8t19 hD, B8t34 hS, B8t18 hD, -B8_append]
def fARHead : Fun
  | [.sl nn b len cap] => (asB8 b).bind fun zs => if zs.length = len ∧ len ≤ 500000 ∧ bytesB zs = true then some (arhV zs) else none
  | _ => none
theorem arhead_pure : Pure Try.prog 104 fARHead := (runF_pure kah_ok follows_mixed dm_ok 100000 1 104).weaken fun args r h => by
  unfold fARHead at h
  split at h
  · rename_i nn b len cap
    obtain ⟨zs, hz, he⟩ := Option.bind_eq_some_iff.1 h
    clear h
    split at he
    case isFalse => cases he
    rename_i hh
    obtain ⟨rfl, h1, h2⟩ := hh
    obtain rfl := asB8_eq hz
    rw [← he]
    exact arhead_run zs nn cap h1 h2
  · cases h
def fAHead : Fun
  | [.sl nn b len cap] => (asB8 b).bind fun zs => if zs.length = len ∧ len ≤ 500000 ∧ bytesB zs = true then some (ahV zs) else none
  | _ => none
theorem ahead_pure : Pure Try.prog 102 fAHead := (runF_pure kah_ok follows_mixed dm_ok 100000 3 102).weaken fun args r h => by
  unfold fAHead at h
  split at h
  · rename_i nn b len cap
    obtain ⟨zs, hz, he⟩ := Option.bind_eq_some_iff.1 h
    clear h
    split at he
    case isFalse => cases he
    rename_i hh
    obtain ⟨rfl, h1, h2⟩ := hh
    obtain rfl := asB8_eq hz
    rw [← he]
    exact ahead_run zs nn cap h1 h2
  · cases h
end Go.Proofs.Ytmdafjegddnecaa

/- answer.IsMay, addresses that are unspecified, packets of ICMP. -/
namespace Go.Proofs.Ytmdafjegddnecaa
open Go.Pm Go.Wb
set_option linter.unusedVariables false
set_option linter.unusedSimpArgs false
set_option maxRecDepth 1000000
noncomputable def KAI : Nat → Option Con
  | 102 => some fAHead
  | 104 => some fARHead
  | _ => none
theorem kai_ok : KOk Try.prog KAI := fun f F h => by
  unfold KAI at h
  split at h
  · cases h; exact ⟨ahead_pure, _, Try.func102, rfl, by decide⟩
  · cases h; exact ⟨arhead_pure, _, Try.func104, rfl, by decide⟩
  · cases h
section
variable {D : FuncId → Nat → List Nat} {L d px : Nat} {args : List AV} {m : Mem}
theorem ckai_ahead : pvCall Try.prog KAI D L d px 102 args m = callBy fAHead m px args := pvCall_by rfl
theorem ckai_arhead : pvCall Try.prog KAI D L d px 104 args m = callBy fARHead m px args := pvCall_by rfl
end
theorem ekai_ahead : KAI 102 = some (.pure fAHead) := rfl
theorem ekai_arhead : KAI 104 = some (.pure fARHead) := rfl
attribute [simp] ckai_ahead ekai_ahead ckai_arhead ekai_arhead
theorem an_ok {zs : List Int} (hl : zs.length ≤ 500000) (hz : bytesB zs = true) (h : anEr zs = 0) : anHd zs = hdA (an6 zs) (anS zs) (anD zs) (anP zs) (anN zs) (.own 0 0 0 (anR zs).length 1 (.whole 5)) ∧ anB zs = [B8 (anR zs)] ∧ anVer zs = verA (an6 zs) ∧ (anS zs).length = 16 ∧ (anD zs).length = 16 ∧ bytesB (anS zs) = true ∧ bytesB (anD zs) = true ∧ bytesB (anR zs) = true ∧ anN zs + (anR zs).length ≤ zs.length ∧ 20 ≤ anN zs ∧ (anR zs).length ≤ 65535 := by
  have hb : ¬ anBad zs := by
    intro hb
    unfold anEr at h
    rw [if_pos hb] at h
    cases h
  have he : anE zs = 0 := by unfold anEr at h; rwa [if_neg hb] at h
  have g4 := gb_range hz 4
  have g5 := gb_range hz 5
  have w2 := w16_range (bytesB_iff.1 hz) 2
  refine ⟨by unfold anHd; rw [if_neg hb, if_neg (by simp [he])], by unfold anB; rw [if_pos h], by unfold anVer; rw [if_neg hb], ?_⟩
  cases hv : an6 zs with
  | true =>
    have h6 : gb zs 0 / 16 = 6 := by simpa [an6] using hv
    have hE : anE zs = an6E zs := by unfold anE; rw [if_pos hv]
    rw [hE] at he
    obtain ⟨h40, hL, _⟩ := an6E_ok h6 he
    have hn := an6_n hz h6 he
    have l6 : len6 zs ≤ 65535 := by unfold len6; omega
    simp only [anS, anD, anN, anR, hv, if_true]
    refine ⟨by simp; omega, by simp; omega, bytesB_take (bytesB_drop hz _) _, bytesB_take (bytesB_drop hz _) _, bytesB_take (bytesB_drop hz _) _, by simp; omega, by omega, by simp; omega⟩
  | false =>
    have hE : anE zs = chk4 zs := by unfold anE; rw [if_neg (by simp [hv])]
    rw [hE] at he
    obtain ⟨q1, q2, q3, q4, q5, q6, q7, q8, q9, q10⟩ := chk4_ok he
    have aa : ∀ xs : List Int, bytesB xs = true → bytesB (ad4 xs) = true := by
      intro xs hx
      have a0 := gb_range hx 0
      have a1 := gb_range hx 1
      have a2 := gb_range hx 2
      have a3 := gb_range hx 3
      simp [ad4, bytesB_cons, a0, a1, a2, a3]
      rfl
    simp only [anS, anD, anN, anR, hv, if_false, Bool.false_eq_true]
    refine ⟨rfl, rfl, aa _ (bytesB_drop hz _), aa _ (bytesB_drop hz _), bytesB_take (bytesB_drop hz _) _, by simp; omega, by omega, by simp; omega⟩
theorem an_err {zs : List Int} (h : ¬ anEr zs = 0) : ∃ v n V, anHd zs = hdA v z16 z16 0 n (.v (.slice none 0 0)) ∧ anB zs = [] ∧ anVer zs = V ∧ (V = noVer ∨ V = verA true ∨ V = verA false) := by
  by_cases hb : anBad zs
  · exact ⟨false, 0, noVer, by unfold anHd; rw [if_pos hb], by unfold anB; rw [if_neg h], by unfold anVer; rw [if_pos hb], .inl rfl⟩
  · have he : ¬ anE zs = 0 := by unfold anEr at h; rwa [if_neg hb] at h
    refine ⟨an6 zs, _, _, by unfold anHd; rw [if_neg hb, if_pos he], by unfold anB; rw [if_neg h], rfl, ?_⟩
    unfold anVer
    rw [if_neg hb]
    cases an6 zs <;> simp
theorem an_4 {zs : List Int} (h : anEr zs = 0) (hv : an6 zs = false) : 20 ≤ zs.length := by
  have hb : ¬ anBad zs := by
    intro hb
    unfold anEr at h
    rw [if_pos hb] at h
    cases h
  have he : anE zs = 0 := by unfold anEr at h; rwa [if_neg hb] at h
  unfold anE at he
  rw [if_neg (by simp [hv])] at he
  exact (chk4_ok he).1
def mayV (zs : List Int) : Bool := decide (anEr zs = 0) && (an6 zs || decide (gb zs 6 / 64 % 2 = 1))
set_option maxHeartbeats 16000000 in
theorem amay_run (zs : List Int) (nn : Bool) (cap : Option Nat) (hl : zs.length ≤ 500000) (hz : bytesB zs = true) : runF Try.prog KAI Dm 100000 1 50 [.sl nn (B8 zs) zs.length cap] = some (.v (.bool (mayV zs)), []) := by
  have hg : zs.length = zs.length ∧ zs.length ≤ 500000 ∧ bytesB zs = true := ⟨rfl, hl, hz⟩
  unfold runF mayV
  rw [pvCall_own (fn := Try.f50) rfl Try.func50 rfl (by decide) rfl rfl (by simp)]
  by_cases he : anEr zs = 0
  case neg =>
    obtain ⟨v, n, V, h1, h2, h3, h4⟩ := an_err he
    have hen : (anEr zs == 0) = false := by simp [he]
    rcases h4 with rfl | rfl | rfl <;> simp -implicitDefEqProofs [fAHead, ahV, hg, he, hen, h1, h2, h3, hdA, z16, verA, noVer, B8vc, B8vn, splice]
  obtain ⟨h1, h2, h3, hS, hD, bS, bD, bR, hle, h20, hR6⟩ := an_ok hl hz he
  generalize anS zs = S at *
  generalize anD zs = E at *
  generalize anR zs = R at *
  cases hv : an6 zs with
  | true => simp -implicitDefEqProofs [fAHead, ahV, hg, he, h1, h2, h3, hv, hdA, verA, hS, hD, splice, B8t16 hS, B8d16 hS, B8t16 hD, B8d16 hD, B8t33 hS, B8t17 hD, B8d32 hS, B8d32 hD, B8t32 hS, B8d33 hS, B8d17 hD, B8d34 hS, B8d18 hD, B8t34 hS, B8t18 hD, -B8_append]
  | false =>
    have q := an_4 he hv
    have g := gb_range hz 6
    have a6 := B8_at0 zs 6 (by omega)
    have l6 : 6 < zs.length := by omega
    have i6 : (6 : Int) < (zs.length : Int) := by omega
    have d1 : (gb zs 6).tdiv 64 = gb zs 6 / 64 := Int.tdiv_eq_ediv_of_nonneg g.1
    have d2 : (gb zs 6).fdiv 64 = gb zs 6 / 64 := Int.fdiv_eq_ediv_of_nonneg _ (by omega)
    have d3 : IntKind.u8.wrap (gb zs 6 / 64) = gb zs 6 / 64 := wrapu8_id (by omega) (by omega)
    have d4 : (gb zs 6 / 64).tmod 2 = gb zs 6 / 64 % 2 := Int.tmod_eq_emod_of_nonneg (by omega)
    have d5 : IntKind.u8.wrap (gb zs 6 / 64 % 2) = gb zs 6 / 64 % 2 := wrapu8_id (by omega) (by omega)
    have d6 : bits .and .u8 (gb zs 6 / 64) 1 = gb zs 6 / 64 % 2 := by
      have hh : gb zs 6 / 64 < 256 := by omega
      have hh0 : 0 ≤ gb zs 6 / 64 := by omega
      generalize gb zs 6 / 64 = q at *
      go_bits2
    by_cases hb : gb zs 6 / 64 % 2 = 1
    · simp -implicitDefEqProofs [fAHead, ahV, hg, he, h1, h2, h3, hv, hb, a6, l6, i6, d1, d2, d3, d4, d5, d6, hdA, verA, hS, hD, splice, IntKind.bits, B8t16 hS, B8d16 hS, B8t16 hD, B8d16 hD, B8t33 hS, B8t17 hD, B8d32 hS, B8d32 hD, B8t32 hS, B8d33 hS, B8d17 hD, B8d34 hS, B8d18 hD, B8t34 hS, B8t18 hD, -B8_append]
    · simp -implicitDefEqProofs [fAHead, ahV, hg, he, h1, h2, h3, hv, hb, a6, l6, i6, d1, d2, d3, d4, d5, d6, hdA, verA, hS, hD, splice, IntKind.bits, B8t16 hS, B8d16 hS, B8t16 hD, B8d16 hD, B8t33 hS, B8t17 hD, B8d32 hS, B8d32 hD, B8t32 hS, B8d33 hS, B8d17 hD, B8d34 hS, B8d18 hD, B8t34 hS, B8t18 hD, -B8_append]
set_option maxHeartbeats 16000000 in
theorem armay_run (zs : List Int) (nn : Bool) (cap : Option Nat) (hl : zs.length ≤ 500000) (hz : bytesB zs = true) : runF Try.prog KAI Dm 100000 1 51 [.sl nn (B8 zs) zs.length cap] = some (.v (.bool (mayV zs)), []) := by
  have hg : zs.length = zs.length ∧ zs.length ≤ 500000 ∧ bytesB zs = true := ⟨rfl, hl, hz⟩
  unfold runF mayV
  rw [pvCall_own (fn := Try.f51) rfl Try.func51 rfl (by decide) rfl rfl (by simp)]
  by_cases he : anEr zs = 0
  case neg =>
    obtain ⟨v, n, V, h1, h2, h3, h4⟩ := an_err he
    have hen : (anEr zs == 0) = false := by simp [he]
    rcases h4 with rfl | rfl | rfl <;> simp -implicitDefEqProofs [fARHead, arhV, hg, he, hen, h1, h2, h3, hdA, z16, verA, noVer, B8vc, B8vn, splice]
  obtain ⟨h1, h2, h3, hS, hD, bS, bD, bR, hle, h20, hR6⟩ := an_ok hl hz he
  generalize anS zs = S at *
  generalize anD zs = E at *
  generalize anR zs = R at *
  cases hv : an6 zs with
  | true => simp -implicitDefEqProofs [fARHead, arhV, hg, he, h1, h2, h3, hv, hdA, verA, hS, hD, splice, B8t16 hS, B8d16 hS, B8t16 hD, B8d16 hD, B8t33 hS, B8t17 hD, B8d32 hS, B8d32 hD, B8t32 hS, B8d33 hS, B8d17 hD, B8d34 hS, B8d18 hD, B8t34 hS, B8t18 hD, -B8_append]
  | false =>
    have q := an_4 he hv
    have g := gb_range hz 6
    have a6 := B8_at0 zs 6 (by omega)
    have l6 : 6 < zs.length := by omega
    have i6 : (6 : Int) < (zs.length : Int) := by omega
    have d1 : (gb zs 6).tdiv 64 = gb zs 6 / 64 := Int.tdiv_eq_ediv_of_nonneg g.1
    have d2 : (gb zs 6).fdiv 64 = gb zs 6 / 64 := Int.fdiv_eq_ediv_of_nonneg _ (by omega)
    have d3 : IntKind.u8.wrap (gb zs 6 / 64) = gb zs 6 / 64 := wrapu8_id (by omega) (by omega)
    have d4 : (gb zs 6 / 64).tmod 2 = gb zs 6 / 64 % 2 := Int.tmod_eq_emod_of_nonneg (by omega)
    have d5 : IntKind.u8.wrap (gb zs 6 / 64 % 2) = gb zs 6 / 64 % 2 := wrapu8_id (by omega) (by omega)
    have d6 : bits .and .u8 (gb zs 6 / 64) 1 = gb zs 6 / 64 % 2 := by
      have hh : gb zs 6 / 64 < 256 := by omega
      have hh0 : 0 ≤ gb zs 6 / 64 := by omega
      generalize gb zs 6 / 64 = q at *
      go_bits2
    by_cases hb : gb zs 6 / 64 % 2 = 1
    · simp -implicitDefEqProofs [fARHead, arhV, hg, he, h1, h2, h3, hv, hb, a6, l6, i6, d1, d2, d3, d4, d5, d6, hdA, verA, hS, hD, splice, IntKind.bits, B8t16 hS, B8d16 hS, B8t16 hD, B8d16 hD, B8t33 hS, B8t17 hD, B8d32 hS, B8d32 hD, B8t32 hS, B8d33 hS, B8d17 hD, B8d34 hS, B8d18 hD, B8t34 hS, B8t18 hD, -B8_append]
    · simp -implicitDefEqProofs [fARHead, arhV, hg, he, h1, h2, h3, hv, hb, a6, l6, i6, d1, d2, d3, d4, d5, d6, hdA, verA, hS, hD, splice, IntKind.bits, B8t16 hS, B8d16 hS, B8t16 hD, B8d16 hD, B8t33 hS, B8t17 hD, B8d32 hS, B8d32 hD, B8t32 hS, B8d33 hS, B8d17 hD, B8d34 hS, B8d18 hD, B8t34 hS, B8t18 hD, -B8_append]
def fAMay : Fun
  | [.sl nn b len cap] => (asB8 b).bind fun zs => if zs.length = len ∧ len ≤ 500000 ∧ bytesB zs = true then some (.v (.bool (mayV zs)), []) else none
  | _ => none
theorem amay_pure : Pure Try.prog 50 fAMay := (runF_pure kai_ok follows_mixed dm_ok 100000 1 50).weaken fun args r h => by
  unfold fAMay at h
  split at h
  · rename_i nn b len cap
    obtain ⟨zs, hz, he⟩ := Option.bind_eq_some_iff.1 h
    clear h
    split at he
    case isFalse => cases he
    rename_i hh
    obtain ⟨rfl, h1, h2⟩ := hh
    obtain rfl := asB8_eq hz
    rw [← he]
    exact amay_run zs nn cap h1 h2
  · cases h
theorem armay_pure : Pure Try.prog 51 fAMay := (runF_pure kai_ok follows_mixed dm_ok 100000 1 51).weaken fun args r h => by
  unfold fAMay at h
  split at h
  · rename_i nn b len cap
    obtain ⟨zs, hz, he⟩ := Option.bind_eq_some_iff.1 h
    clear h
    split at he
    case isFalse => cases he
    rename_i hh
    obtain ⟨rfl, h1, h2⟩ := hh
    obtain rfl := asB8_eq hz
    rw [← he]
    exact armay_run zs nn cap h1 h2
  · cases h
end Go.Proofs.Ytmdafjegddnecaa

/- answer.Echo and the reference's as functions of values. -/
namespace Go.Proofs.Ytmdafjegddnecaa
open Go.Pm Go.Wb
set_option linter.unusedVariables false
set_option linter.unusedSimpArgs false
set_option maxRecDepth 1000000
def ownP (v6 : Bool) : Int := if v6 = true then 58 else 1
def manyB (v6 : Bool) (S : List Int) : Bool := if v6 = true then decide (gb S 0 = 255) else decide (224 ≤ gb S 0)
def pkV (v6 : Bool) (S D b : List Int) : AV × List (List AV) := if v6 = true then w6V 0 0 58 58 64 S D [] b else w4V 0 0 false 64 1 S D [] b
theorem pk_form (v6 : Bool) (S D b : List Int) : (∃ e, ¬ e = 0 ∧ pkV v6 S D b = ewE e) ∨ (∃ W, pkV v6 S D b = ewC W) := by
  unfold pkV
  cases v6 with
  | true =>
    simp only [if_true]
    unfold w6V
    split
    · exact .inl ⟨_, by decide, rfl⟩
    split
    · exact .inl ⟨_, by decide, rfl⟩
    · exact .inr ⟨_, rfl⟩
  | false =>
    simp only [Bool.false_eq_true, if_false]
    unfold w4V
    split
    · rename_i q; exact .inl ⟨_, q, rfl⟩
    split
    · exact .inl ⟨_, by decide, rfl⟩
    split
    · exact .inl ⟨_, by decide, rfl⟩
    · exact .inr ⟨_, rfl⟩
theorem good6_pk {S D : List Int} (hS : S.length = 16) (hD : D.length = 16) (bS : bytesB S = true) (bD : bytesB D = true) : good6 0 0 58 58 64 S D [] := ⟨by decide, by decide, by decide, by decide, by decide, by decide, by decide, by decide, by decide, by decide, hS, hD, bS, bD, rfl, by decide⟩
theorem good4_pk {S D : List Int} (hS : S.length = 16) (hD : D.length = 16) (bS : bytesB S = true) (bD : bytesB D = true) : good4 0 0 64 1 S D [] := ⟨by decide, by decide, by decide, by decide, by decide, by decide, by decide, by decide, hS, hD, bS, bD, rfl, by decide⟩
end Go.Proofs.Ytmdafjegddnecaa
