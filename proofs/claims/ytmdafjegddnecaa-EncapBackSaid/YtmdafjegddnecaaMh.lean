import Derived.Test.YtmdafjegddnecaaMg
import Derived.Test.YtmdafjegddnecaaMe
import Derived.Test.YtmdafjegddnecaaMc
import Derived.Test.YtmdafjegddnecaaVb
import Derived.Test.YtmdafjegddnecaaMf
import Derived.Test.YtmdafjegddnecaaMd
/- What an IP packet says: answer.read and the reference's head as functions of values. -/
namespace Go.Proofs.Ytmdafjegddnecaa
open Go.Pm Go.Wb
set_option linter.unusedVariables false
set_option linter.unusedSimpArgs false
set_option maxRecDepth 1000000
noncomputable def KAH : Nat → Option Con
  | 52 => some fIP4
  | 130 => some fIP4
  | 22 => some fIP6
  | 129 => some fIP6
  | _ => none
theorem kah_ok : KOk Try.prog KAH := fun f F h => by
  unfold KAH at h
  split at h
  · cases h; exact ⟨ip4_pure, _, Try.func52, rfl, by decide⟩
  · cases h; exact ⟨rip4_pure, _, Try.func130, rfl, by decide⟩
  · cases h; exact ⟨ip6_pure, _, Try.func22, rfl, by decide⟩
  · cases h; exact ⟨rip6_pure, _, Try.func129, rfl, by decide⟩
  · cases h
section
variable {D : FuncId → Nat → List Nat} {L d px : Nat} {args : List AV} {m : Mem}
theorem ckah_ip4 : pvCall Try.prog KAH D L d px 52 args m = callBy fIP4 m px args := pvCall_by rfl
theorem ckah_rip4 : pvCall Try.prog KAH D L d px 130 args m = callBy fIP4 m px args := pvCall_by rfl
theorem ckah_ip6 : pvCall Try.prog KAH D L d px 22 args m = callBy fIP6 m px args := pvCall_by rfl
theorem ckah_rip6 : pvCall Try.prog KAH D L d px 129 args m = callBy fIP6 m px args := pvCall_by rfl
end
theorem ekah_ip4 : KAH 52 = some (.pure fIP4) := rfl
theorem ekah_rip4 : KAH 130 = some (.pure fIP4) := rfl
theorem ekah_ip6 : KAH 22 = some (.pure fIP6) := rfl
theorem ekah_rip6 : KAH 129 = some (.pure fIP6) := rfl
attribute [simp] ckah_ip4 ekah_ip4 ckah_rip4 ekah_rip4 ckah_ip6 ekah_ip6 ckah_rip6 ekah_rip6
def an6 (zs : List Int) : Bool := decide (gb zs 0 / 16 = 6)
def anBad (zs : List Int) : Prop := zs.length = 0 ∨ (¬ gb zs 0 / 16 = 4 ∧ ¬ gb zs 0 / 16 = 6)
instance (zs : List Int) : Decidable (anBad zs) := by unfold anBad; infer_instance
def anC (zs : List Int) : Int × Int × Int := chainF 9 (gb zs 6) ((zs.drop 40).take (len6 zs)) 0 0
def an6E (zs : List Int) : Int := if zs.length < 40 then 4 else if ¬ gb zs 0 / 16 = 6 then 5 else if zs.length < 40 + len6 zs then 4 else (anC zs).2.2
def anE (zs : List Int) : Int := if an6 zs = true then an6E zs else chk4 zs
def anS (zs : List Int) : List Int := if an6 zs = true then (zs.drop 8).take 16 else ad4 (zs.drop 12)
def anD (zs : List Int) : List Int := if an6 zs = true then (zs.drop 24).take 16 else ad4 (zs.drop 16)
def anP (zs : List Int) : Int := if an6 zs = true then (anC zs).1 else gb zs 9
def anN (zs : List Int) : Nat := if an6 zs = true then 40 + (anC zs).2.1.toNat else hl4 zs
def anR (zs : List Int) : List Int := if an6 zs = true then (zs.drop (40 + (anC zs).2.1.toNat)).take (len6 zs - (anC zs).2.1.toNat) else (zs.drop (hl4 zs)).take ((w16 zs 2).toNat - hl4 zs)
def hdA (v6 : Bool) (S D : List Int) (pr n : Int) (rest : AV) : AV := .agg (.v (.bool v6) :: (B8 S ++ (B8 D ++ [.v (.int .u8 pr), .v (.int .i64 n), rest])))
def anHd (zs : List Int) : AV := if anBad zs then hdA false z16 z16 0 0 (.v (.slice none 0 0)) else if ¬ anE zs = 0 then hdA (an6 zs) z16 z16 0 (if an6 zs = true then 40 else 20) (.v (.slice none 0 0)) else hdA (an6 zs) (anS zs) (anD zs) (anP zs) (anN zs) (.own 0 0 0 (anR zs).length 1 (.whole 5))
def anEr (zs : List Int) : Int := if anBad zs then 5 else anE zs
def anB (zs : List Int) : List (List AV) := if anEr zs = 0 then [B8 (anR zs)] else []
def arhV (zs : List Int) : AV × List (List AV) := (.tup [anHd zs, .v (.int .i64 (anEr zs))], anB zs)
def verA (v6 : Bool) : AV := if v6 = true then .agg [.v (.int .u8 128), .v (.int .u8 129), .v (.int .u8 58), .v (.int .u16 1280), .fn (.func 173) [] [], .fn (.func 174) [] [], .fn (.func 175) [] []] else .agg [.v (.int .u8 8), .v (.int .u8 0), .v (.int .u8 1), .v (.int .u16 68), .fn (.func 170) [] [], .fn (.func 171) [] [], .fn (.func 172) [] []]
def noVer : AV := .agg [.v (.int .u8 0), .v (.int .u8 0), .v (.int .u8 0), .v (.int .u16 0), .v .nilFunc, .v .nilFunc, .v .nilFunc]
def anVer (zs : List Int) : AV := if anBad zs then noVer else verA (an6 zs)
def ahV (zs : List Int) : AV × List (List AV) := (.tup [anHd zs, anVer zs, .v (.int .i64 (anEr zs))], anB zs)
theorem B8d35 {ss : List Int} (h : ss.length = 16) (T : List AV) : (B8 ss ++ T).drop 35 = T.drop 19 := by
  rw [show (35 : Nat) = 16 + 19 from rfl, ← List.drop_drop, B8d16 h]
theorem B8d19 {ss : List Int} (h : ss.length = 16) (T : List AV) : (B8 ss ++ T).drop 19 = T.drop 3 := by
  rw [show (19 : Nat) = 16 + 3 from rfl, ← List.drop_drop, B8d16 h]
theorem B8t35 {ss : List Int} (h : ss.length = 16) (T : List AV) : (B8 ss ++ T).take 35 = B8 ss ++ T.take 19 := by
  rw [List.take_append, B8_length, h, List.take_of_length_le (by simp [h])]
theorem B8t19 {ss : List Int} (h : ss.length = 16) (T : List AV) : (B8 ss ++ T).take 19 = B8 ss ++ T.take 3 := by
  rw [List.take_append, B8_length, h, List.take_of_length_le (by simp [h])]
theorem ip6V_e {zs : List Int} (h6 : gb zs 0 / 16 = 6) : ip6V zs = if an6E zs = 0 then ip6R zs (anC zs).1 (anC zs).2.1.toNat (len6 zs) else err6 (an6E zs) := by
  unfold ip6V an6E anC
  by_cases h1 : zs.length < 40
  · simp [h1]
  by_cases h2 : zs.length < 40 + len6 zs
  · simp [h1, h2, h6]
  simp [h1, h2, h6]
theorem an6E_ok {zs : List Int} (h6 : gb zs 0 / 16 = 6) (h : an6E zs = 0) : 40 ≤ zs.length ∧ 40 + len6 zs ≤ zs.length ∧ (anC zs).2.2 = 0 := by
  unfold an6E at h
  by_cases h1 : zs.length < 40
  · simp [h1] at h
  by_cases h2 : zs.length < 40 + len6 zs
  · simp [h1, h2, h6] at h
  simp [h1, h2, h6] at h
  exact ⟨by omega, by omega, h⟩
theorem an6_n {zs : List Int} (hz : bytesB zs = true) (h6 : gb zs 0 / 16 = 6) (h : an6E zs = 0) : (anC zs).2.1.toNat ≤ len6 zs := by
  obtain ⟨_, hL, hc⟩ := an6E_ok h6 h
  rcases chain6_out hz hL _ rfl with ⟨h1, _⟩ | ⟨h1, n, h2, h3, _⟩
  · exact absurd hc h1
  · unfold anC; rw [h2]; exact h3
set_option maxHeartbeats 32000000 in
theorem arhead_run (zs : List Int) (nn : Bool) (cap : Option Nat) (hl : zs.length ≤ 500000) (hz : bytesB zs = true) : runF Try.prog KAH Dm 100000 1 104 [.sl nn (B8 zs) zs.length cap] = some (arhV zs) := by
  have g := gb_range hz 0
  have d1 : (gb zs 0).tdiv 16 = gb zs 0 / 16 := Int.tdiv_eq_ediv_of_nonneg g.1
  have d2 : (gb zs 0).fdiv 16 = gb zs 0 / 16 := Int.fdiv_eq_ediv_of_nonneg _ (by omega)
  have d3 : IntKind.u8.wrap (gb zs 0 / 16) = gb zs 0 / 16 := wrapu8_id (by omega) (by omega)
  have hg : zs.length = zs.length ∧ zs.length ≤ 500000 ∧ bytesB zs = true := ⟨rfl, hl, hz⟩
  have c6 : IntKind.u8.wrap 6 = 6 := by decide
  have c4 : IntKind.u8.wrap 4 = 4 := by decide
  unfold runF arhV anHd anB anEr
  rw [pvCall_own (fn := Try.f104) rfl Try.func104 rfl (by decide) rfl rfl (by simp)]
  by_cases hb : anBad zs
  · simp only [if_pos hb]
    by_cases h0 : zs.length = 0
    · obtain rfl := List.length_eq_zero_iff.1 h0
      simp -implicitDefEqProofs [hb, hdA, z16, splice, B8vc, B8vn]
    have hc : ¬ gb zs 0 / 16 = 4 ∧ ¬ gb zs 0 / 16 = 6 := by rcases hb with h | h; exact absurd h h0; exact h
    have n4 : (gb zs 0 / 16 != 4) = true := by simp [hc.1]
    have n6 : (gb zs 0 / 16 != 6) = true := by simp [hc.2]
    have i0 : ¬ (zs.length : Int) = 0 := by omega
    have jb : ((zs.length : Int) == 0) = false := by simp [h0]
    have j0 : (0 : Int) < (zs.length : Int) := by omega
    have l0 : 0 < zs.length := by omega
    have a0 := B8_at00 zs (by omega)
    simp -implicitDefEqProofs [h0, i0, jb, j0, l0, a0, d1, d2, d3, c4, c6, hb, hc.1, hc.2, n4, n6, hdA, z16, splice, B8vc, B8vn]
  simp only [if_neg hb]
  have h0 : ¬ zs.length = 0 := fun h => hb (.inl h)
  have i0 : ¬ (zs.length : Int) = 0 := by omega
  have jb : ((zs.length : Int) == 0) = false := by simp [h0]
  have j0 : (0 : Int) < (zs.length : Int) := by omega
  have l0 : 0 < zs.length := by omega
  have a0 := B8_at00 zs (by omega)
  by_cases h6 : gb zs 0 / 16 = 6
  · have hV := ip6V_e h6
    have hv : an6 zs = true := by simp [an6, h6]
    have hE : anE zs = an6E zs := by unfold anE; rw [if_pos hv]
    rw [hE]
    by_cases he : an6E zs = 0
    case neg =>
      rw [if_neg he] at hV
      simp -implicitDefEqProofs [ h0, i0, jb, j0, l0, a0, d1, d2, d3, c4, c6, h6, hv, he, hg, hV, fIP6, err6, noH6, ip6A, hdA, z16, splice, B8vc, B8vn]
    rw [if_pos he] at hV
    have hn := an6_n hz h6 he
    obtain ⟨h40, hL, _⟩ := an6E_ok h6 he
    have hA : (if ¬ an6E zs = 0 then hdA (an6 zs) z16 z16 0 (if an6 zs = true then 40 else 20) (.v (.slice none 0 0)) else hdA (an6 zs) (anS zs) (anD zs) (anP zs) (anN zs) (.own 0 0 0 (anR zs).length 1 (.whole 5))) = hdA true ((zs.drop 8).take 16) ((zs.drop 24).take 16) (anC zs).1 (40 + ((anC zs).2.1.toNat : Int)) (.own 0 0 0 (len6 zs - (anC zs).2.1.toNat) 1 (.whole 5)) := by
      rw [if_neg (by simp [he])]
      have hc : ((40 + (anC zs).2.1.toNat : Nat) : Int) = 40 + ((anC zs).2.1.toNat : Int) := by omega
      have hm : min (len6 zs - (anC zs).2.1.toNat) (zs.length - (40 + (anC zs).2.1.toNat)) = len6 zs - (anC zs).2.1.toNat := by omega
      simp only [anS, anD, anP, anN, anR, hv, if_true, List.length_take, List.length_drop, hc, hm]
    have hB : (if an6E zs = 0 then [B8 (anR zs)] else []) = [B8 ((zs.drop (40 + (anC zs).2.1.toNat)).take (len6 zs - (anC zs).2.1.toNat))] := by
      rw [if_pos he]; simp [anR, hv]
    rw [hA, hB]
    unfold ip6R ip6A at hV
    have hS : ((zs.drop 8).take 16).length = 16 := by simp; omega
    have hD : ((zs.drop 24).take 16).length = 16 := by simp; omega
    generalize (zs.drop 8).take 16 = S at *
    generalize (zs.drop 24).take 16 = E at *
    have hR : ((zs.drop (40 + (anC zs).2.1.toNat)).take (len6 zs - (anC zs).2.1.toNat)).length = len6 zs - (anC zs).2.1.toNat := by simp; omega
    generalize (zs.drop (40 + (anC zs).2.1.toNat)).take (len6 zs - (anC zs).2.1.toNat) = R at *
    have w1 : IntKind.i64.wrap (40 + ((anC zs).2.1.toNat : Int)) = 40 + ((anC zs).2.1.toNat : Int) := wrap64_id (by omega) (by omega)
    generalize (anC zs).2.1.toNat = n at *
    simp -implicitDefEqProofs [ h0, i0, jb, j0, l0, a0, d1, d2, d3, c4, c6, h6, hv, he, hg, hV, fIP6, hdA, splice, hS, hD, hR, w1, B8t16 hS, B8d16 hS, B8t16 hD, B8d16 hD, B8t33 hS, B8t17 hD, B8d32 hS, B8d32 hD, B8t32 hS, B8d33 hS, B8d17 hD, B8d34 hS, B8d18 hD, B8d35 hS, B8d19 hD, B8t35 hS, B8t19 hD, B8t34 hS, B8t18 hD, -B8_append]
  have h4 : gb zs 0 / 16 = 4 := Classical.byContradiction fun h => hb (.inr ⟨h, h6⟩)
  have hv : an6 zs = false := by simp [an6, h6]
  have hE : anE zs = chk4 zs := by unfold anE; rw [if_neg (by simp [hv])]
  rw [hE]
  by_cases he : chk4 zs = 0
  case neg =>
    simp -implicitDefEqProofs [ h0, i0, jb, j0, l0, a0, d1, d2, d3, c4, c6, h6, h4, hv, he, hg, ip4V, fIP4, err4, noH4, ip4A, hdA, z16, zz16, splice, B8vc, B8vn]
  obtain ⟨q1, q2, q3, q4, q5, q6, q7, q8, q9, q10⟩ := chk4_ok he
  have hA : (if ¬ chk4 zs = 0 then hdA (an6 zs) z16 z16 0 (if an6 zs = true then 40 else 20) (.v (.slice none 0 0)) else hdA (an6 zs) (anS zs) (anD zs) (anP zs) (anN zs) (.own 0 0 0 (anR zs).length 1 (.whole 5))) = hdA false (ad4 (zs.drop 12)) (ad4 (zs.drop 16)) (gb zs 9) (hl4 zs : Int) (.own 0 0 0 ((w16 zs 2).toNat - hl4 zs) 1 (.whole 5)) := by
    rw [if_neg (by simp [he])]
    have hm : min ((w16 zs 2).toNat - hl4 zs) (zs.length - hl4 zs) = (w16 zs 2).toNat - hl4 zs := by omega
    simp only [anS, anD, anP, anN, anR, hv, if_false, Bool.false_eq_true, List.length_take, List.length_drop, hm]
  have hB : (if chk4 zs = 0 then [B8 (anR zs)] else []) = [B8 ((zs.drop (hl4 zs)).take ((w16 zs 2).toNat - hl4 zs))] := by
    rw [if_pos he]; simp [anR, hv]
  rw [hA, hB]
  have hV : ip4V zs = ip4R zs (hl4 zs) (w16 zs 2).toNat := by unfold ip4V; rw [if_pos he]
  unfold ip4R ip4A at hV
  have hS : (ad4 (zs.drop 12)).length = 16 := rfl
  have hD : (ad4 (zs.drop 16)).length = 16 := rfl
  generalize ad4 (zs.drop 12) = S at *
  generalize ad4 (zs.drop 16) = E at *
  have hR : ((zs.drop (hl4 zs)).take ((w16 zs 2).toNat - hl4 zs)).length = (w16 zs 2).toNat - hl4 zs := by simp; omega
  generalize (zs.drop (hl4 zs)).take ((w16 zs 2).toNat - hl4 zs) = R at *
  have w1 : IntKind.i64.wrap (20 + ((hl4 zs - 20 : Nat) : Int)) = (hl4 zs : Int) := by rw [wrap64_id (by omega) (by omega)]; omega
  simp -implicitDefEqProofs [ h0, i0, jb, j0, l0, a0, d1, d2, d3, c4, c6, h6, h4, hv, he, hg, hV, fIP4, hdA, splice, hS, hD, hR, w1, B8t16 hS, B8d16 hS, B8t16 hD, B8d16 hD, B8t33 hS, B8t17 hD, B8d32 hS, B8d32 hD, B8t32 hS, B8d33 hS, B8d17 hD, B8d34 hS, B8d18 hD, B8d35 hS, B8d19 hD, B8t35 hS, B8t19 hD, B8t34 hS, B8t18 hD, -B8_append]
set_option maxHeartbeats 32000000 in
theorem ahead_run (zs : List Int) (nn : Bool) (cap : Option Nat) (hl : zs.length ≤ 500000) (hz : bytesB zs = true) : runF Try.prog KAH Dm 100000 3 102 [.sl nn (B8 zs) zs.length cap] = some (ahV zs) := by
  have hof := fun (px : Nat) (args : List AV) (m : Mem) (hl : args.length ≤ Try.f94.ntmps) => pvCall_own (P := Try.prog) (K := KAH) (D := Dm) (L := 100000) (d := 1) (px := px) (args := args) (m := m) (f := 94) (fn := Try.f94) rfl Try.func94 rfl (by decide) rfl rfl hl
  have hve := fun (px : Nat) (args : List AV) (m : Mem) (hl : args.length ≤ Try.f141.ntmps) => pvCall_own (P := Try.prog) (K := KAH) (D := Dm) (L := 100000) (d := 0) (px := px) (args := args) (m := m) (f := 141) (fn := Try.f141) rfl Try.func141 rfl (by decide) rfl rfl hl
  have h4f := fun (px : Nat) (args : List AV) (m : Mem) (hl : args.length ≤ Try.f170.ntmps) => pvCall_own (P := Try.prog) (K := KAH) (D := Dm) (L := 100000) (d := 1) (px := px) (args := args) (m := m) (f := 170) (fn := Try.f170) rfl Try.func170 rfl (by decide) rfl rfl hl
  have h6f := fun (px : Nat) (args : List AV) (m : Mem) (hl : args.length ≤ Try.f173.ntmps) => pvCall_own (P := Try.prog) (K := KAH) (D := Dm) (L := 100000) (d := 1) (px := px) (args := args) (m := m) (f := 173) (fn := Try.f173) rfl Try.func173 rfl (by decide) rfl rfl hl
  have g := gb_range hz 0
  have d1 : (gb zs 0).tdiv 16 = gb zs 0 / 16 := Int.tdiv_eq_ediv_of_nonneg g.1
  have d2 : (gb zs 0).fdiv 16 = gb zs 0 / 16 := Int.fdiv_eq_ediv_of_nonneg _ (by omega)
  have d3 : IntKind.u8.wrap (gb zs 0 / 16) = gb zs 0 / 16 := wrapu8_id (by omega) (by omega)
  have hg : zs.length = zs.length ∧ zs.length ≤ 500000 ∧ bytesB zs = true := ⟨rfl, hl, hz⟩
  have c6 : IntKind.u8.wrap 6 = 6 := by decide
  have c4 : IntKind.u8.wrap 4 = 4 := by decide
  unfold runF ahV anVer anHd anB anEr
  rw [pvCall_own (fn := Try.f102) rfl Try.func102 rfl (by decide) rfl rfl (by simp)]
  by_cases hb : anBad zs
  · simp only [if_pos hb]
    by_cases h0 : zs.length = 0
    · obtain rfl := List.length_eq_zero_iff.1 h0
      simp -implicitDefEqProofs [hof, hve, h4f, h6f, verA, noVer, IntKind.bits, Nat.testBit_eq_decide_div_mod_eq, hb, hdA, z16, splice, B8vc, B8vn]
    have hc : ¬ gb zs 0 / 16 = 4 ∧ ¬ gb zs 0 / 16 = 6 := by rcases hb with h | h; exact absurd h h0; exact h
    have n4 : (gb zs 0 / 16 != 4) = true := by simp [hc.1]
    have n6 : (gb zs 0 / 16 != 6) = true := by simp [hc.2]
    have i0 : ¬ (zs.length : Int) = 0 := by omega
    have jb : ((zs.length : Int) == 0) = false := by simp [h0]
    have j0 : (0 : Int) < (zs.length : Int) := by omega
    have l0 : 0 < zs.length := by omega
    have a0 := B8_at00 zs (by omega)
    simp -implicitDefEqProofs [hof, hve, h4f, h6f, verA, noVer, IntKind.bits, Nat.testBit_eq_decide_div_mod_eq, h0, i0, jb, j0, l0, a0, d1, d2, d3, c4, c6, hb, hc.1, hc.2, n4, n6, hdA, z16, splice, B8vc, B8vn]
  simp only [if_neg hb]
  have h0 : ¬ zs.length = 0 := fun h => hb (.inl h)
  have i0 : ¬ (zs.length : Int) = 0 := by omega
  have jb : ((zs.length : Int) == 0) = false := by simp [h0]
  have j0 : (0 : Int) < (zs.length : Int) := by omega
  have l0 : 0 < zs.length := by omega
  have a0 := B8_at00 zs (by omega)
  by_cases h6 : gb zs 0 / 16 = 6
  · have hV := ip6V_e h6
    have hv : an6 zs = true := by simp [an6, h6]
    have hE : anE zs = an6E zs := by unfold anE; rw [if_pos hv]
    rw [hE]
    by_cases he : an6E zs = 0
    case neg =>
      rw [if_neg he] at hV
      simp -implicitDefEqProofs [hof, hve, h4f, h6f, verA, noVer, IntKind.bits, Nat.testBit_eq_decide_div_mod_eq,  h0, i0, jb, j0, l0, a0, d1, d2, d3, c4, c6, h6, hv, he, hg, hV, fIP6, err6, noH6, ip6A, hdA, z16, splice, B8vc, B8vn]
    rw [if_pos he] at hV
    have hn := an6_n hz h6 he
    obtain ⟨h40, hL, _⟩ := an6E_ok h6 he
    have hA : (if ¬ an6E zs = 0 then hdA (an6 zs) z16 z16 0 (if an6 zs = true then 40 else 20) (.v (.slice none 0 0)) else hdA (an6 zs) (anS zs) (anD zs) (anP zs) (anN zs) (.own 0 0 0 (anR zs).length 1 (.whole 5))) = hdA true ((zs.drop 8).take 16) ((zs.drop 24).take 16) (anC zs).1 (40 + ((anC zs).2.1.toNat : Int)) (.own 0 0 0 (len6 zs - (anC zs).2.1.toNat) 1 (.whole 5)) := by
      rw [if_neg (by simp [he])]
      have hc : ((40 + (anC zs).2.1.toNat : Nat) : Int) = 40 + ((anC zs).2.1.toNat : Int) := by omega
      have hm : min (len6 zs - (anC zs).2.1.toNat) (zs.length - (40 + (anC zs).2.1.toNat)) = len6 zs - (anC zs).2.1.toNat := by omega
      simp only [anS, anD, anP, anN, anR, hv, if_true, List.length_take, List.length_drop, hc, hm]
    have hB : (if an6E zs = 0 then [B8 (anR zs)] else []) = [B8 ((zs.drop (40 + (anC zs).2.1.toNat)).take (len6 zs - (anC zs).2.1.toNat))] := by
      rw [if_pos he]; simp [anR, hv]
    rw [hA, hB]
    unfold ip6R ip6A at hV
    have hS : ((zs.drop 8).take 16).length = 16 := by simp; omega
    have hD : ((zs.drop 24).take 16).length = 16 := by simp; omega
    generalize (zs.drop 8).take 16 = S at *
    generalize (zs.drop 24).take 16 = E at *
    have hR : ((zs.drop (40 + (anC zs).2.1.toNat)).take (len6 zs - (anC zs).2.1.toNat)).length = len6 zs - (anC zs).2.1.toNat := by simp; omega
    generalize (zs.drop (40 + (anC zs).2.1.toNat)).take (len6 zs - (anC zs).2.1.toNat) = R at *
    have w1 : IntKind.i64.wrap (40 + ((anC zs).2.1.toNat : Int)) = 40 + ((anC zs).2.1.toNat : Int) := wrap64_id (by omega) (by omega)
    generalize (anC zs).2.1.toNat = n at *
    simp -implicitDefEqProofs [hof, hve, h4f, h6f, verA, noVer, IntKind.bits, Nat.testBit_eq_decide_div_mod_eq,  h0, i0, jb, j0, l0, a0, d1, d2, d3, c4, c6, h6, hv, he, hg, hV, fIP6, hdA, splice, hS, hD, hR, w1, B8t16 hS, B8d16 hS, B8t16 hD, B8d16 hD, B8t33 hS, B8t17 hD, B8d32 hS, B8d32 hD, B8t32 hS, B8d33 hS, B8d17 hD, B8d34 hS, B8d18 hD, B8d35 hS, B8d19 hD, B8t35 hS, B8t19 hD, B8t34 hS, B8t18 hD, -B8_append]
  have h4 : gb zs 0 / 16 = 4 := Classical.byContradiction fun h => hb (.inr ⟨h, h6⟩)
  have hv : an6 zs = false := by simp [an6, h6]
  have hE : anE zs = chk4 zs := by unfold anE; rw [if_neg (by simp [hv])]
  rw [hE]
  by_cases he : chk4 zs = 0
  case neg =>
    simp -implicitDefEqProofs [hof, hve, h4f, h6f, verA, noVer, IntKind.bits, Nat.testBit_eq_decide_div_mod_eq,  h0, i0, jb, j0, l0, a0, d1, d2, d3, c4, c6, h6, h4, hv, he, hg, ip4V, fIP4, err4, noH4, ip4A, hdA, z16, zz16, splice, B8vc, B8vn]
  obtain ⟨q1, q2, q3, q4, q5, q6, q7, q8, q9, q10⟩ := chk4_ok he
  have hA : (if ¬ chk4 zs = 0 then hdA (an6 zs) z16 z16 0 (if an6 zs = true then 40 else 20) (.v (.slice none 0 0)) else hdA (an6 zs) (anS zs) (anD zs) (anP zs) (anN zs) (.own 0 0 0 (anR zs).length 1 (.whole 5))) = hdA false (ad4 (zs.drop 12)) (ad4 (zs.drop 16)) (gb zs 9) (hl4 zs : Int) (.own 0 0 0 ((w16 zs 2).toNat - hl4 zs) 1 (.whole 5)) := by
    rw [if_neg (by simp [he])]
    have hm : min ((w16 zs 2).toNat - hl4 zs) (zs.length - hl4 zs) = (w16 zs 2).toNat - hl4 zs := by omega
    simp only [anS, anD, anP, anN, anR, hv, if_false, Bool.false_eq_true, List.length_take, List.length_drop, hm]
  have hB : (if chk4 zs = 0 then [B8 (anR zs)] else []) = [B8 ((zs.drop (hl4 zs)).take ((w16 zs 2).toNat - hl4 zs))] := by
    rw [if_pos he]; simp [anR, hv]
  rw [hA, hB]
  have hV : ip4V zs = ip4R zs (hl4 zs) (w16 zs 2).toNat := by unfold ip4V; rw [if_pos he]
  unfold ip4R ip4A at hV
  have hS : (ad4 (zs.drop 12)).length = 16 := rfl
  have hD : (ad4 (zs.drop 16)).length = 16 := rfl
  generalize ad4 (zs.drop 12) = S at *
  generalize ad4 (zs.drop 16) = E at *
  have hR : ((zs.drop (hl4 zs)).take ((w16 zs 2).toNat - hl4 zs)).length = (w16 zs 2).toNat - hl4 zs := by simp; omega
  generalize (zs.drop (hl4 zs)).take ((w16 zs 2).toNat - hl4 zs) = R at *
  have w1 : IntKind.i64.wrap (20 + ((hl4 zs - 20 : Nat) : Int)) = (hl4 zs : Int) := by rw [wrap64_id (by omega) (by omega)]; omega
  simp -implicitDefEqProofs [hof, hve, h4f, h6f, verA, noVer, IntKind.bits, Nat.testBit_eq_decide_div_mod_eq,  h0, i0, jb, j0, l0, a0, d1, d2, d3, c4, c6, h6, h4, hv, he, hg, hV, fIP4, hdA, splice, hS, hD, hR, w1, B8t16 hS, B8d16 hS, B8t16 hD, B8d16 hD, B8t33 hS, B8t17 hD, B8d32 hS, B8d32 hD, B8t32 hS, B8d33 hS, B8d17 hD, B8d34 hS, B8d18 hD, B8d35 hS, B8d19 hD, B8t35 hS, B8t19 hD, B8t34 hS, B8t18 hD, -B8_append]
def fARHead : Fun
  | [.sl nn b len cap] => (asB8 b).bind fun zs => if zs.length = len ∧ len ≤ 500000 ∧ bytesB zs = true then some (arhV zs) else none
  | _ => none
theorem arhead_pure : Pure Try.prog 104 fARHead := (runF_pure kah_ok follows_mixed dm_ok 100000 1 104).weaken fun args r h => by
  unfold fARHead at h
  split at h
  · rename_i nn b len cap
    obtain ⟨zs, hz, he⟩ := Option.bind_eq_some_iff.1 h
    clear h
    split at he
    case isFalse => cases he
    rename_i hh
    obtain ⟨rfl, h1, h2⟩ := hh
    obtain rfl := asB8_eq hz
    rw [← he]
    exact arhead_run zs nn cap h1 h2
  · cases h
def fAHead : Fun
  | [.sl nn b len cap] => (asB8 b).bind fun zs => if zs.length = len ∧ len ≤ 500000 ∧ bytesB zs = true then some (ahV zs) else none
  | _ => none
theorem ahead_pure : Pure Try.prog 102 fAHead := (runF_pure kah_ok follows_mixed dm_ok 100000 3 102).weaken fun args r h => by
  unfold fAHead at h
  split at h
  · rename_i nn b len cap
    obtain ⟨zs, hz, he⟩ := Option.bind_eq_some_iff.1 h
    clear h
    split at he
    case isFalse => cases he
    rename_i hh
    obtain ⟨rfl, h1, h2⟩ := hh
    obtain rfl := asB8_eq hz
    rw [← he]
    exact ahead_run zs nn cap h1 h2
  · cases h
end Go.Proofs.Ytmdafjegddnecaa

/- answer.IsMay, addresses that are unspecified, packets of ICMP. -/
namespace Go.Proofs.Ytmdafjegddnecaa
open Go.Pm Go.Wb
set_option linter.unusedVariables false
set_option linter.unusedSimpArgs false
set_option maxRecDepth 1000000
noncomputable def KAI : Nat → Option Con
  | 102 => some fAHead
  | 104 => some fARHead
  | _ => none
theorem kai_ok : KOk Try.prog KAI := fun f F h => by
  unfold KAI at h
  split at h
  · cases h; exact ⟨ahead_pure, _, Try.func102, rfl, by decide⟩
  · cases h; exact ⟨arhead_pure, _, Try.func104, rfl, by decide⟩
  · cases h
section
variable {D : FuncId → Nat → List Nat} {L d px : Nat} {args : List AV} {m : Mem}
theorem ckai_ahead : pvCall Try.prog KAI D L d px 102 args m = callBy fAHead m px args := pvCall_by rfl
theorem ckai_arhead : pvCall Try.prog KAI D L d px 104 args m = callBy fARHead m px args := pvCall_by rfl
end
theorem ekai_ahead : KAI 102 = some (.pure fAHead) := rfl
theorem ekai_arhead : KAI 104 = some (.pure fARHead) := rfl
attribute [simp] ckai_ahead ekai_ahead ckai_arhead ekai_arhead
theorem an_ok {zs : List Int} (hl : zs.length ≤ 500000) (hz : bytesB zs = true) (h : anEr zs = 0) : anHd zs = hdA (an6 zs) (anS zs) (anD zs) (anP zs) (anN zs) (.own 0 0 0 (anR zs).length 1 (.whole 5)) ∧ anB zs = [B8 (anR zs)] ∧ anVer zs = verA (an6 zs) ∧ (anS zs).length = 16 ∧ (anD zs).length = 16 ∧ bytesB (anS zs) = true ∧ bytesB (anD zs) = true ∧ bytesB (anR zs) = true ∧ anN zs + (anR zs).length ≤ zs.length ∧ 20 ≤ anN zs ∧ (anR zs).length ≤ 65535 := by
  have hb : ¬ anBad zs := by
    intro hb
    unfold anEr at h
    rw [if_pos hb] at h
    cases h
  have he : anE zs = 0 := by unfold anEr at h; rwa [if_neg hb] at h
  have g4 := gb_range hz 4
  have g5 := gb_range hz 5
  have w2 := w16_range (bytesB_iff.1 hz) 2
  refine ⟨by unfold anHd; rw [if_neg hb, if_neg (by simp [he])], by unfold anB; rw [if_pos h], by unfold anVer; rw [if_neg hb], ?_⟩
  cases hv : an6 zs with
  | true =>
    have h6 : gb zs 0 / 16 = 6 := by simpa [an6] using hv
    have hE : anE zs = an6E zs := by unfold anE; rw [if_pos hv]
    rw [hE] at he
    obtain ⟨h40, hL, _⟩ := an6E_ok h6 he
    have hn := an6_n hz h6 he
    have l6 : len6 zs ≤ 65535 := by unfold len6; omega
    simp only [anS, anD, anN, anR, hv, if_true]
    refine ⟨by simp; omega, by simp; omega, bytesB_take (bytesB_drop hz _) _, bytesB_take (bytesB_drop hz _) _, bytesB_take (bytesB_drop hz _) _, by simp; omega, by omega, by simp; omega⟩
  | false =>
    have hE : anE zs = chk4 zs := by unfold anE; rw [if_neg (by simp [hv])]
    rw [hE] at he
    obtain ⟨q1, q2, q3, q4, q5, q6, q7, q8, q9, q10⟩ := chk4_ok he
    have aa : ∀ xs : List Int, bytesB xs = true → bytesB (ad4 xs) = true := by
      intro xs hx
      have a0 := gb_range hx 0
      have a1 := gb_range hx 1
      have a2 := gb_range hx 2
      have a3 := gb_range hx 3
      simp [ad4, bytesB_cons, a0, a1, a2, a3]
      rfl
    simp only [anS, anD, anN, anR, hv, if_false, Bool.false_eq_true]
    refine ⟨rfl, rfl, aa _ (bytesB_drop hz _), aa _ (bytesB_drop hz _), bytesB_take (bytesB_drop hz _) _, by simp; omega, by omega, by simp; omega⟩
theorem an_err {zs : List Int} (h : ¬ anEr zs = 0) : ∃ v n V, anHd zs = hdA v z16 z16 0 n (.v (.slice none 0 0)) ∧ anB zs = [] ∧ anVer zs = V ∧ (V = noVer ∨ V = verA true ∨ V = verA false) := by
  by_cases hb : anBad zs
  · exact ⟨false, 0, noVer, by unfold anHd; rw [if_pos hb], by unfold anB; rw [if_neg h], by unfold anVer; rw [if_pos hb], .inl rfl⟩
  · have he : ¬ anE zs = 0 := by unfold anEr at h; rwa [if_neg hb] at h
    refine ⟨an6 zs, _, _, by unfold anHd; rw [if_neg hb, if_pos he], by unfold anB; rw [if_neg h], rfl, ?_⟩
    unfold anVer
    rw [if_neg hb]
    cases an6 zs <;> simp
theorem an_4 {zs : List Int} (h : anEr zs = 0) (hv : an6 zs = false) : 20 ≤ zs.length := by
  have hb : ¬ anBad zs := by
    intro hb
    unfold anEr at h
    rw [if_pos hb] at h
    cases h
  have he : anE zs = 0 := by unfold anEr at h; rwa [if_neg hb] at h
  unfold anE at he
  rw [if_neg (by simp [hv])] at he
  exact (chk4_ok he).1
def mayV (zs : List Int) : Bool := decide (anEr zs = 0) && (an6 zs || decide (gb zs 6 / 64 % 2 = 1))
set_option maxHeartbeats 16000000 in
theorem amay_run (zs : List Int) (nn : Bool) (cap : Option Nat) (hl : zs.length ≤ 500000) (hz : bytesB zs = true) : runF Try.prog KAI Dm 100000 1 50 [.sl nn (B8 zs) zs.length cap] = some (.v (.bool (mayV zs)), []) := by
  have hg : zs.length = zs.length ∧ zs.length ≤ 500000 ∧ bytesB zs = true := ⟨rfl, hl, hz⟩
  unfold runF mayV
  rw [pvCall_own (fn := Try.f50) rfl Try.func50 rfl (by decide) rfl rfl (by simp)]
  by_cases he : anEr zs = 0
  case neg =>
    obtain ⟨v, n, V, h1, h2, h3, h4⟩ := an_err he
    have hen : (anEr zs == 0) = false := by simp [he]
    rcases h4 with rfl | rfl | rfl <;> simp -implicitDefEqProofs [fAHead, ahV, hg, he, hen, h1, h2, h3, hdA, z16, verA, noVer, B8vc, B8vn, splice]
  obtain ⟨h1, h2, h3, hS, hD, bS, bD, bR, hle, h20, hR6⟩ := an_ok hl hz he
  generalize anS zs = S at *
  generalize anD zs = E at *
  generalize anR zs = R at *
  cases hv : an6 zs with
  | true => simp -implicitDefEqProofs [fAHead, ahV, hg, he, h1, h2, h3, hv, hdA, verA, hS, hD, splice, B8t16 hS, B8d16 hS, B8t16 hD, B8d16 hD, B8t33 hS, B8t17 hD, B8d32 hS, B8d32 hD, B8t32 hS, B8d33 hS, B8d17 hD, B8d34 hS, B8d18 hD, B8t34 hS, B8t18 hD, -B8_append]
  | false =>
    have q := an_4 he hv
    have g := gb_range hz 6
    have a6 := B8_at0 zs 6 (by omega)
    have l6 : 6 < zs.length := by omega
    have i6 : (6 : Int) < (zs.length : Int) := by omega
    have d1 : (gb zs 6).tdiv 64 = gb zs 6 / 64 := Int.tdiv_eq_ediv_of_nonneg g.1
    have d2 : (gb zs 6).fdiv 64 = gb zs 6 / 64 := Int.fdiv_eq_ediv_of_nonneg _ (by omega)
    have d3 : IntKind.u8.wrap (gb zs 6 / 64) = gb zs 6 / 64 := wrapu8_id (by omega) (by omega)
    have d4 : (gb zs 6 / 64).tmod 2 = gb zs 6 / 64 % 2 := Int.tmod_eq_emod_of_nonneg (by omega)
    have d5 : IntKind.u8.wrap (gb zs 6 / 64 % 2) = gb zs 6 / 64 % 2 := wrapu8_id (by omega) (by omega)
    have d6 : bits .and .u8 (gb zs 6 / 64) 1 = gb zs 6 / 64 % 2 := by
      have hh : gb zs 6 / 64 < 256 := by omega
      have hh0 : 0 ≤ gb zs 6 / 64 := by omega
      generalize gb zs 6 / 64 = q at *
      go_bits2
    by_cases hb : gb zs 6 / 64 % 2 = 1
    · simp -implicitDefEqProofs [fAHead, ahV, hg, he, h1, h2, h3, hv, hb, a6, l6, i6, d1, d2, d3, d4, d5, d6, hdA, verA, hS, hD, splice, IntKind.bits, B8t16 hS, B8d16 hS, B8t16 hD, B8d16 hD, B8t33 hS, B8t17 hD, B8d32 hS, B8d32 hD, B8t32 hS, B8d33 hS, B8d17 hD, B8d34 hS, B8d18 hD, B8t34 hS, B8t18 hD, -B8_append]
    · simp -implicitDefEqProofs [fAHead, ahV, hg, he, h1, h2, h3, hv, hb, a6, l6, i6, d1, d2, d3, d4, d5, d6, hdA, verA, hS, hD, splice, IntKind.bits, B8t16 hS, B8d16 hS, B8t16 hD, B8d16 hD, B8t33 hS, B8t17 hD, B8d32 hS, B8d32 hD, B8t32 hS, B8d33 hS, B8d17 hD, B8d34 hS, B8d18 hD, B8t34 hS, B8t18 hD, -B8_append]
set_option maxHeartbeats 16000000 in
theorem armay_run (zs : List Int) (nn : Bool) (cap : Option Nat) (hl : zs.length ≤ 500000) (hz : bytesB zs = true) : runF Try.prog KAI Dm 100000 1 51 [.sl nn (B8 zs) zs.length cap] = some (.v (.bool (mayV zs)), []) := by
  have hg : zs.length = zs.length ∧ zs.length ≤ 500000 ∧ bytesB zs = true := ⟨rfl, hl, hz⟩
  unfold runF mayV
  rw [pvCall_own (fn := Try.f51) rfl Try.func51 rfl (by decide) rfl rfl (by simp)]
  by_cases he : anEr zs = 0
  case neg =>
    obtain ⟨v, n, V, h1, h2, h3, h4⟩ := an_err he
    have hen : (anEr zs == 0) = false := by simp [he]
    rcases h4 with rfl | rfl | rfl <;> simp -implicitDefEqProofs [fARHead, arhV, hg, he, hen, h1, h2, h3, hdA, z16, verA, noVer, B8vc, B8vn, splice]
  obtain ⟨h1, h2, h3, hS, hD, bS, bD, bR, hle, h20, hR6⟩ := an_ok hl hz he
  generalize anS zs = S at *
  generalize anD zs = E at *
  generalize anR zs = R at *
  cases hv : an6 zs with
  | true => simp -implicitDefEqProofs [fARHead, arhV, hg, he, h1, h2, h3, hv, hdA, verA, hS, hD, splice, B8t16 hS, B8d16 hS, B8t16 hD, B8d16 hD, B8t33 hS, B8t17 hD, B8d32 hS, B8d32 hD, B8t32 hS, B8d33 hS, B8d17 hD, B8d34 hS, B8d18 hD, B8t34 hS, B8t18 hD, -B8_append]
  | false =>
    have q := an_4 he hv
    have g := gb_range hz 6
    have a6 := B8_at0 zs 6 (by omega)
    have l6 : 6 < zs.length := by omega
    have i6 : (6 : Int) < (zs.length : Int) := by omega
    have d1 : (gb zs 6).tdiv 64 = gb zs 6 / 64 := Int.tdiv_eq_ediv_of_nonneg g.1
    have d2 : (gb zs 6).fdiv 64 = gb zs 6 / 64 := Int.fdiv_eq_ediv_of_nonneg _ (by omega)
    have d3 : IntKind.u8.wrap (gb zs 6 / 64) = gb zs 6 / 64 := wrapu8_id (by omega) (by omega)
    have d4 : (gb zs 6 / 64).tmod 2 = gb zs 6 / 64 % 2 := Int.tmod_eq_emod_of_nonneg (by omega)
    have d5 : IntKind.u8.wrap (gb zs 6 / 64 % 2) = gb zs 6 / 64 % 2 := wrapu8_id (by omega) (by omega)
    have d6 : bits .and .u8 (gb zs 6 / 64) 1 = gb zs 6 / 64 % 2 := by
      have hh : gb zs 6 / 64 < 256 := by omega
      have hh0 : 0 ≤ gb zs 6 / 64 := by omega
      generalize gb zs 6 / 64 = q at *
      go_bits2
    by_cases hb : gb zs 6 / 64 % 2 = 1
    · simp -implicitDefEqProofs [fARHead, arhV, hg, he, h1, h2, h3, hv, hb, a6, l6, i6, d1, d2, d3, d4, d5, d6, hdA, verA, hS, hD, splice, IntKind.bits, B8t16 hS, B8d16 hS, B8t16 hD, B8d16 hD, B8t33 hS, B8t17 hD, B8d32 hS, B8d32 hD, B8t32 hS, B8d33 hS, B8d17 hD, B8d34 hS, B8d18 hD, B8t34 hS, B8t18 hD, -B8_append]
    · simp -implicitDefEqProofs [fARHead, arhV, hg, he, h1, h2, h3, hv, hb, a6, l6, i6, d1, d2, d3, d4, d5, d6, hdA, verA, hS, hD, splice, IntKind.bits, B8t16 hS, B8d16 hS, B8t16 hD, B8d16 hD, B8t33 hS, B8t17 hD, B8d32 hS, B8d32 hD, B8t32 hS, B8d33 hS, B8d17 hD, B8d34 hS, B8d18 hD, B8t34 hS, B8t18 hD, -B8_append]
def fAMay : Fun
  | [.sl nn b len cap] => (asB8 b).bind fun zs => if zs.length = len ∧ len ≤ 500000 ∧ bytesB zs = true then some (.v (.bool (mayV zs)), []) else none
  | _ => none
theorem amay_pure : Pure Try.prog 50 fAMay := (runF_pure kai_ok follows_mixed dm_ok 100000 1 50).weaken fun args r h => by
  unfold fAMay at h
  split at h
  · rename_i nn b len cap
    obtain ⟨zs, hz, he⟩ := Option.bind_eq_some_iff.1 h
    clear h
    split at he
    case isFalse => cases he
    rename_i hh
    obtain ⟨rfl, h1, h2⟩ := hh
    obtain rfl := asB8_eq hz
    rw [← he]
    exact amay_run zs nn cap h1 h2
  · cases h
theorem armay_pure : Pure Try.prog 51 fAMay := (runF_pure kai_ok follows_mixed dm_ok 100000 1 51).weaken fun args r h => by
  unfold fAMay at h
  split at h
  · rename_i nn b len cap
    obtain ⟨zs, hz, he⟩ := Option.bind_eq_some_iff.1 h
    clear h
    split at he
    case isFalse => cases he
    rename_i hh
    obtain ⟨rfl, h1, h2⟩ := hh
    obtain rfl := asB8_eq hz
    rw [← he]
    exact armay_run zs nn cap h1 h2
  · cases h
end Go.Proofs.Ytmdafjegddnecaa

/- answer.Echo and the reference's as functions of values. -/
namespace Go.Proofs.Ytmdafjegddnecaa
open Go.Pm Go.Wb
set_option linter.unusedVariables false
set_option linter.unusedSimpArgs false
set_option maxRecDepth 1000000
set_option maxHeartbeats 16000000 in
theorem azero_run (S : List Int) (hS : S.length = 16) (bS : bytesB S = true) : runF Try.prog KAI Dm 100000 1 107 [.agg (B8 S)] = some (.v (.bool (decide (S = z16))), []) := by
  obtain ⟨x0, x1, x2, x3, x4, x5, x6, x7, x8, x9, x10, x11, x12, x13, x14, x15, rfl⟩ : ∃ x0 x1 x2 x3 x4 x5 x6 x7 x8 x9 x10 x11 x12 x13 x14 x15, S = [x0, x1, x2, x3, x4, x5, x6, x7, x8, x9, x10, x11, x12, x13, x14, x15] := by
    match S, hS with
    | [x0, x1, x2, x3, x4, x5, x6, x7, x8, x9, x10, x11, x12, x13, x14, x15], _ => exact ⟨x0, x1, x2, x3, x4, x5, x6, x7, x8, x9, x10, x11, x12, x13, x14, x15, rfl⟩
  simp only [bytesB_cons, Bool.and_eq_true, decide_eq_true_eq] at bS
  obtain ⟨⟨l0, u0⟩, ⟨l1, u1⟩, ⟨l2, u2⟩, ⟨l3, u3⟩, ⟨l4, u4⟩, ⟨l5, u5⟩, ⟨l6, u6⟩, ⟨l7, u7⟩, ⟨l8, u8⟩, ⟨l9, u9⟩, ⟨l10, u10⟩, ⟨l11, u11⟩, ⟨l12, u12⟩, ⟨l13, u13⟩, ⟨l14, u14⟩, ⟨l15, u15⟩, -⟩ := bS
  unfold runF z16
  rw [pvCall_own (fn := Try.f107) rfl Try.func107 rfl (by decide) rfl rfl (by simp)]
  by_cases h0 : x0 = 0
  case neg =>
    have p0 : 0 < x0 := by omega
    simp -implicitDefEqProofs [h0, p0, loopK_pos, B8vc, B8vn, splice]
  subst h0
  by_cases h1 : x1 = 0
  case neg =>
    have p1 : 0 < x1 := by omega
    simp -implicitDefEqProofs [h1, p1, loopK_pos, B8vc, B8vn, splice]
  subst h1
  by_cases h2 : x2 = 0
  case neg =>
    have p2 : 0 < x2 := by omega
    simp -implicitDefEqProofs [h2, p2, loopK_pos, B8vc, B8vn, splice]
  subst h2
  by_cases h3 : x3 = 0
  case neg =>
    have p3 : 0 < x3 := by omega
    simp -implicitDefEqProofs [h3, p3, loopK_pos, B8vc, B8vn, splice]
  subst h3
  by_cases h4 : x4 = 0
  case neg =>
    have p4 : 0 < x4 := by omega
    simp -implicitDefEqProofs [h4, p4, loopK_pos, B8vc, B8vn, splice]
  subst h4
  by_cases h5 : x5 = 0
  case neg =>
    have p5 : 0 < x5 := by omega
    simp -implicitDefEqProofs [h5, p5, loopK_pos, B8vc, B8vn, splice]
  subst h5
  by_cases h6 : x6 = 0
  case neg =>
    have p6 : 0 < x6 := by omega
    simp -implicitDefEqProofs [h6, p6, loopK_pos, B8vc, B8vn, splice]
  subst h6
  by_cases h7 : x7 = 0
  case neg =>
    have p7 : 0 < x7 := by omega
    simp -implicitDefEqProofs [h7, p7, loopK_pos, B8vc, B8vn, splice]
  subst h7
  by_cases h8 : x8 = 0
  case neg =>
    have p8 : 0 < x8 := by omega
    simp -implicitDefEqProofs [h8, p8, loopK_pos, B8vc, B8vn, splice]
  subst h8
  by_cases h9 : x9 = 0
  case neg =>
    have p9 : 0 < x9 := by omega
    simp -implicitDefEqProofs [h9, p9, loopK_pos, B8vc, B8vn, splice]
  subst h9
  by_cases h10 : x10 = 0
  case neg =>
    have p10 : 0 < x10 := by omega
    simp -implicitDefEqProofs [h10, p10, loopK_pos, B8vc, B8vn, splice]
  subst h10
  by_cases h11 : x11 = 0
  case neg =>
    have p11 : 0 < x11 := by omega
    simp -implicitDefEqProofs [h11, p11, loopK_pos, B8vc, B8vn, splice]
  subst h11
  by_cases h12 : x12 = 0
  case neg =>
    have p12 : 0 < x12 := by omega
    simp -implicitDefEqProofs [h12, p12, loopK_pos, B8vc, B8vn, splice]
  subst h12
  by_cases h13 : x13 = 0
  case neg =>
    have p13 : 0 < x13 := by omega
    simp -implicitDefEqProofs [h13, p13, loopK_pos, B8vc, B8vn, splice]
  subst h13
  by_cases h14 : x14 = 0
  case neg =>
    have p14 : 0 < x14 := by omega
    simp -implicitDefEqProofs [h14, p14, loopK_pos, B8vc, B8vn, splice]
  subst h14
  by_cases h15 : x15 = 0
  case neg =>
    have p15 : 0 < x15 := by omega
    simp -implicitDefEqProofs [h15, p15, loopK_pos, B8vc, B8vn, splice]
  subst h15
  simp -implicitDefEqProofs [loopK_pos, B8vc, B8vn, splice]
def fAZero : Fun
  | [.agg a] => (asB8 a).bind fun S => if S.length = 16 ∧ bytesB S = true then some (.v (.bool (decide (S = z16))), []) else none
  | _ => none
theorem azero_pure : Pure Try.prog 107 fAZero := (runF_pure kai_ok follows_mixed dm_ok 100000 1 107).weaken fun args r h => by
  unfold fAZero at h
  split at h
  · rename_i a
    obtain ⟨zs, hz, he⟩ := Option.bind_eq_some_iff.1 h
    clear h
    split at he
    case isFalse => cases he
    rename_i hh
    obtain rfl := asB8_eq hz
    rw [← he]
    exact azero_run zs hh.1 hh.2
  · cases h
noncomputable def KAP : Nat → Option Con
  | 143 => some fRW4
  | 126 => some fW6
  | _ => none
theorem kap_ok : KOk Try.prog KAP := fun f F h => by
  unfold KAP at h
  split at h
  · cases h; exact ⟨rw4_pure, _, Try.func143, rfl, by decide⟩
  · cases h; exact ⟨rw6_pure, _, Try.func126, rfl, by decide⟩
  · cases h
section
variable {D : FuncId → Nat → List Nat} {L d px : Nat} {args : List AV} {m : Mem}
theorem ckap_rw4 : pvCall Try.prog KAP D L d px 143 args m = callBy fRW4 m px args := pvCall_by rfl
theorem ckap_rw6 : pvCall Try.prog KAP D L d px 126 args m = callBy fW6 m px args := pvCall_by rfl
end
theorem ekap_rw4 : KAP 143 = some (.pure fRW4) := rfl
theorem ekap_rw6 : KAP 126 = some (.pure fW6) := rfl
attribute [simp] ckap_rw4 ekap_rw4 ckap_rw6 ekap_rw6
def ownP (v6 : Bool) : Int := if v6 = true then 58 else 1
def manyB (v6 : Bool) (S : List Int) : Bool := if v6 = true then decide (gb S 0 = 255) else decide (224 ≤ gb S 0)
def pkV (v6 : Bool) (S D b : List Int) : AV × List (List AV) := if v6 = true then w6V 0 0 58 58 64 S D [] b else w4V 0 0 false 64 1 S D [] b
theorem pk_form (v6 : Bool) (S D b : List Int) : (∃ e, ¬ e = 0 ∧ pkV v6 S D b = ewE e) ∨ (∃ W, pkV v6 S D b = ewC W) := by
  unfold pkV
  cases v6 with
  | true =>
    simp only [if_true]
    unfold w6V
    split
    · exact .inl ⟨_, by decide, rfl⟩
    split
    · exact .inl ⟨_, by decide, rfl⟩
    · exact .inr ⟨_, rfl⟩
  | false =>
    simp only [Bool.false_eq_true, if_false]
    unfold w4V
    split
    · rename_i q; exact .inl ⟨_, q, rfl⟩
    split
    · exact .inl ⟨_, by decide, rfl⟩
    split
    · exact .inl ⟨_, by decide, rfl⟩
    · exact .inr ⟨_, rfl⟩
theorem good6_pk {S D : List Int} (hS : S.length = 16) (hD : D.length = 16) (bS : bytesB S = true) (bD : bytesB D = true) : good6 0 0 58 58 64 S D [] := ⟨by decide, by decide, by decide, by decide, by decide, by decide, by decide, by decide, by decide, by decide, hS, hD, bS, bD, rfl, by decide⟩
theorem good4_pk {S D : List Int} (hS : S.length = 16) (hD : D.length = 16) (bS : bytesB S = true) (bD : bytesB D = true) : good4 0 0 64 1 S D [] := ⟨by decide, by decide, by decide, by decide, by decide, by decide, by decide, by decide, hS, hD, bS, bD, rfl, by decide⟩
theorem aown_run (v6 : Bool) : runF Try.prog KAP Dm 100000 1 105 [.v (.bool v6)] = some (.v (.int .u8 (ownP v6)), []) := by
  unfold runF ownP
  rw [pvCall_own (fn := Try.f105) rfl Try.func105 rfl (by decide) rfl rfl (by simp)]
  cases v6 <;> simp -implicitDefEqProofs []
def fAOwn : Fun
  | [.v (.bool v6)] => some (.v (.int .u8 (ownP v6)), [])
  | _ => none
theorem aown_pure : Pure Try.prog 105 fAOwn := (runF_pure kap_ok follows_mixed dm_ok 100000 1 105).weaken fun args r h => by
  unfold fAOwn at h
  split at h
  · rw [← h]; exact aown_run _
  · cases h
set_option maxHeartbeats 4000000 in
theorem amany_run (v6 : Bool) (S : List Int) (hS : S.length = 16) (bS : bytesB S = true) : runF Try.prog KAP Dm 100000 1 106 [.v (.bool v6), .agg (B8 S)] = some (.v (.bool (manyB v6 S)), []) := by
  have s0 := B8_at00 S (by omega)
  have g := gb_range bS 0
  have i0 : (223 < gb S 0) = (224 ≤ gb S 0) := by apply propext; omega
  unfold runF manyB
  rw [pvCall_own (fn := Try.f106) rfl Try.func106 rfl (by decide) rfl rfl (by simp)]
  cases v6 with
  | true =>
    by_cases h : gb S 0 = 255
    · simp -implicitDefEqProofs [s0, h, hS, splice]
    · have hb : (gb S 0 == 255) = false := by simp [h]
      simp -implicitDefEqProofs [s0, h, hb, hS, splice]
  | false =>
    by_cases h : 224 ≤ gb S 0
    · simp -implicitDefEqProofs [s0, h, i0, hS, splice]
    · simp -implicitDefEqProofs [s0, h, i0, hS, splice]
def fAMany : Fun
  | [.v (.bool v6), .agg a] => (asB8 a).bind fun S => if S.length = 16 ∧ bytesB S = true then some (.v (.bool (manyB v6 S)), []) else none
  | _ => none
theorem amany_pure : Pure Try.prog 106 fAMany := (runF_pure kap_ok follows_mixed dm_ok 100000 1 106).weaken fun args r h => by
  unfold fAMany at h
  split at h
  · rename_i v6 a
    obtain ⟨zs, hz, he⟩ := Option.bind_eq_some_iff.1 h
    clear h
    split at he
    case isFalse => cases he
    rename_i hh
    obtain rfl := asB8_eq hz
    rw [← he]
    exact amany_run v6 zs hh.1 hh.2
  · cases h
set_option maxHeartbeats 16000000 in
theorem apack_run (v6 : Bool) (S D b : List Int) (nn : Bool) (cap : Option Nat) (hS : S.length = 16) (hD : D.length = 16) (bS : bytesB S = true) (bD : bytesB D = true) (hb : b.length ≤ 500000) : runF Try.prog KAP Dm 100000 1 108 [.v (.bool v6), .agg (B8 S), .agg (B8 D), .sl nn (B8 b) b.length cap] = some (pkV v6 S D b) := by
  have t1 : S.take 16 = S := List.take_of_length_le (by omega)
  have t2 : D.take 16 = D := List.take_of_length_le (by omega)
  have g6 := good6_pk hS hD bS bD
  have g4 := good4_pk hS hD bS bD
  have a6 := asI6_at (cl := 0) (la := 0) (nx := 58) (pr := 58) (ho := 64) (cs := []) (len := 0) hS hD rfl
  have a4 := asI4_at (tos := 0) (id := 0) (df := false) (ttl := 64) (pr := 1) (cs := []) (len := 0) hS hD rfl
  simp only [B8vn] at a6 a4
  unfold runF
  rw [pvCall_own (fn := Try.f108) rfl Try.func108 rfl (by decide) rfl rfl (by simp)]
  rcases pk_form v6 S D b with ⟨e, _, h⟩ | ⟨W, h⟩
  · cases v6 with
    | true =>
      have h6 : w6V 0 0 58 58 64 S D [] b = ewE e := h
      simp -implicitDefEqProofs [h, h6, hb, g6, a6, fW6, hS, hD, t1, t2, ewE, splice, B8t16 hS, B8d16 hS, B8t16 hD, B8d16 hD, B8t33 hS, B8t17 hD, B8d32 hS, B8d32 hD, B8t32 hS, B8d33 hS, B8d17 hD, B8d34 hS, B8d18 hD, B8t34 hS, B8t18 hD, B8d35 hS, B8d19 hD, B8t35 hS, B8t19 hD, B8t16 hD, B8t33 hD, B8t17 hS, B8d17 hS, B8d33 hD, B8d18 hS, B8t18 hS, -B8_append]
    | false =>
      have h4 : w4V 0 0 false 64 1 S D [] b = ewE e := h
      simp -implicitDefEqProofs [h, h4, hb, g4, a4, fRW4, hS, hD, t1, t2, ewE, splice, B8t16 hS, B8d16 hS, B8t16 hD, B8d16 hD, B8t33 hS, B8t17 hD, B8d32 hS, B8d32 hD, B8t32 hS, B8d33 hS, B8d17 hD, B8d34 hS, B8d18 hD, B8t34 hS, B8t18 hD, B8d35 hS, B8d19 hD, B8t35 hS, B8t19 hD, B8t16 hD, B8t33 hD, B8t17 hS, B8d17 hS, B8d33 hD, B8d18 hS, B8t18 hS, -B8_append]
  · cases v6 with
    | true =>
      have h6 : w6V 0 0 58 58 64 S D [] b = ewC W := h
      simp -implicitDefEqProofs [h, h6, hb, g6, a6, fW6, hS, hD, t1, t2, ewC, splice, B8t16 hS, B8d16 hS, B8t16 hD, B8d16 hD, B8t33 hS, B8t17 hD, B8d32 hS, B8d32 hD, B8t32 hS, B8d33 hS, B8d17 hD, B8d34 hS, B8d18 hD, B8t34 hS, B8t18 hD, B8d35 hS, B8d19 hD, B8t35 hS, B8t19 hD, B8t16 hD, B8t33 hD, B8t17 hS, B8d17 hS, B8d33 hD, B8d18 hS, B8t18 hS, -B8_append]
    | false =>
      have h4 : w4V 0 0 false 64 1 S D [] b = ewC W := h
      simp -implicitDefEqProofs [h, h4, hb, g4, a4, fRW4, hS, hD, t1, t2, ewC, splice, B8t16 hS, B8d16 hS, B8t16 hD, B8d16 hD, B8t33 hS, B8t17 hD, B8d32 hS, B8d32 hD, B8t32 hS, B8d33 hS, B8d17 hD, B8d34 hS, B8d18 hD, B8t34 hS, B8t18 hD, B8d35 hS, B8d19 hD, B8t35 hS, B8t19 hD, B8t16 hD, B8t33 hD, B8t17 hS, B8d17 hS, B8d33 hD, B8d18 hS, B8t18 hS, -B8_append]
def fAPack : Fun
  | [.v (.bool v6), .agg a, .agg c, .sl nn d len cap] => (asB8 a).bind fun S => (asB8 c).bind fun D => (asB8 d).bind fun b => if S.length = 16 ∧ D.length = 16 ∧ bytesB S = true ∧ bytesB D = true ∧ b.length = len ∧ len ≤ 500000 then some (pkV v6 S D b) else none
  | _ => none
theorem apack_pure : Pure Try.prog 108 fAPack := (runF_pure kap_ok follows_mixed dm_ok 100000 1 108).weaken fun args r h => by
  unfold fAPack at h
  split at h
  · rename_i v6 a b nn c len cap
    obtain ⟨ss, e1, h1⟩ := Option.bind_eq_some_iff.1 h
    obtain ⟨ds, e2, h2⟩ := Option.bind_eq_some_iff.1 h1
    obtain ⟨zs, e3, he⟩ := Option.bind_eq_some_iff.1 h2
    clear h h1 h2
    split at he
    case isFalse => cases he
    rename_i hh
    obtain ⟨x1, x2, x3, x4, rfl, x6⟩ := hh
    obtain rfl := asB8_eq e1
    obtain rfl := asB8_eq e2
    obtain rfl := asB8_eq e3
    rw [← he]
    exact apack_run v6 ss ds zs nn cap x1 x2 x3 x4 x6
  · cases h
noncomputable def KAJ : Nat → Option Con
  | 105 => some fAOwn
  | 106 => some fAMany
  | 108 => some fAPack
  | 102 => some fAHead
  | 104 => some fARHead
  | 38 => some fARead
  | 39 => some fARead
  | 40 => some fAWrite
  | 41 => some fAWrite
  | 43 => some fW4
  | 143 => some fRW4
  | 44 => some fW6
  | 126 => some fW6
  | 107 => some fAZero
  | _ => none
theorem kaj_ok : KOk Try.prog KAJ := fun f F h => by
  unfold KAJ at h
  split at h
  · cases h; exact ⟨aown_pure, _, Try.func105, rfl, by decide⟩
  · cases h; exact ⟨amany_pure, _, Try.func106, rfl, by decide⟩
  · cases h; exact ⟨apack_pure, _, Try.func108, rfl, by decide⟩
  · cases h; exact ⟨ahead_pure, _, Try.func102, rfl, by decide⟩
  · cases h; exact ⟨arhead_pure, _, Try.func104, rfl, by decide⟩
  · cases h; exact ⟨aread_pure, _, Try.func38, rfl, by decide⟩
  · cases h; exact ⟨arread_pure, _, Try.func39, rfl, by decide⟩
  · cases h; exact ⟨awrite_pure, _, Try.func40, rfl, by decide⟩
  · cases h; exact ⟨arwrite_pure, _, Try.func41, rfl, by decide⟩
  · cases h; exact ⟨w4_pure, _, Try.func43, rfl, by decide⟩
  · cases h; exact ⟨rw4_pure, _, Try.func143, rfl, by decide⟩
  · cases h; exact ⟨w6_pure, _, Try.func44, rfl, by decide⟩
  · cases h; exact ⟨rw6_pure, _, Try.func126, rfl, by decide⟩
  · cases h; exact ⟨azero_pure, _, Try.func107, rfl, by decide⟩
  · cases h
section
variable {D : FuncId → Nat → List Nat} {L d px : Nat} {args : List AV} {m : Mem}
theorem ckaj_aown : pvCall Try.prog KAJ D L d px 105 args m = callBy fAOwn m px args := pvCall_by rfl
theorem ckaj_amany : pvCall Try.prog KAJ D L d px 106 args m = callBy fAMany m px args := pvCall_by rfl
theorem ckaj_apack : pvCall Try.prog KAJ D L d px 108 args m = callBy fAPack m px args := pvCall_by rfl
theorem ckaj_ahead : pvCall Try.prog KAJ D L d px 102 args m = callBy fAHead m px args := pvCall_by rfl
theorem ckaj_arhead : pvCall Try.prog KAJ D L d px 104 args m = callBy fARHead m px args := pvCall_by rfl
theorem ckaj_aread : pvCall Try.prog KAJ D L d px 38 args m = callBy fARead m px args := pvCall_by rfl
theorem ckaj_arread : pvCall Try.prog KAJ D L d px 39 args m = callBy fARead m px args := pvCall_by rfl
theorem ckaj_awrite : pvCall Try.prog KAJ D L d px 40 args m = callBy fAWrite m px args := pvCall_by rfl
theorem ckaj_arwrite : pvCall Try.prog KAJ D L d px 41 args m = callBy fAWrite m px args := pvCall_by rfl
theorem ckaj_w4 : pvCall Try.prog KAJ D L d px 43 args m = callBy fW4 m px args := pvCall_by rfl
theorem ckaj_rw4 : pvCall Try.prog KAJ D L d px 143 args m = callBy fRW4 m px args := pvCall_by rfl
theorem ckaj_w6 : pvCall Try.prog KAJ D L d px 44 args m = callBy fW6 m px args := pvCall_by rfl
theorem ckaj_rw6 : pvCall Try.prog KAJ D L d px 126 args m = callBy fW6 m px args := pvCall_by rfl
theorem ckaj_azero : pvCall Try.prog KAJ D L d px 107 args m = callBy fAZero m px args := pvCall_by rfl
end
theorem ekaj_aown : KAJ 105 = some (.pure fAOwn) := rfl
theorem ekaj_amany : KAJ 106 = some (.pure fAMany) := rfl
theorem ekaj_apack : KAJ 108 = some (.pure fAPack) := rfl
theorem ekaj_ahead : KAJ 102 = some (.pure fAHead) := rfl
theorem ekaj_arhead : KAJ 104 = some (.pure fARHead) := rfl
theorem ekaj_aread : KAJ 38 = some (.pure fARead) := rfl
theorem ekaj_arread : KAJ 39 = some (.pure fARead) := rfl
theorem ekaj_awrite : KAJ 40 = some (.pure fAWrite) := rfl
theorem ekaj_arwrite : KAJ 41 = some (.pure fAWrite) := rfl
theorem ekaj_w4 : KAJ 43 = some (.pure fW4) := rfl
theorem ekaj_rw4 : KAJ 143 = some (.pure fRW4) := rfl
theorem ekaj_w6 : KAJ 44 = some (.pure fW6) := rfl
theorem ekaj_rw6 : KAJ 126 = some (.pure fW6) := rfl
theorem ekaj_azero : KAJ 107 = some (.pure fAZero) := rfl
attribute [simp] ckaj_aown ekaj_aown ckaj_amany ekaj_amany ckaj_apack ekaj_apack ckaj_ahead ekaj_ahead ckaj_arhead ekaj_arhead ckaj_aread ekaj_aread ckaj_arread ekaj_arread ckaj_awrite ekaj_awrite ckaj_arwrite ekaj_arwrite ckaj_w4 ekaj_w4 ckaj_rw4 ekaj_rw4 ckaj_w6 ekaj_w6 ckaj_rw6 ekaj_rw6 ckaj_azero ekaj_azero
def ekE (zs : List Int) : Int := if ¬ anEr zs = 0 then anEr zs else if ¬ anP zs = ownP (an6 zs) then 10 else if ¬ ecE (an6 zs) (anS zs) (anD zs) (anR zs) = 0 then ecE (an6 zs) (anS zs) (anD zs) (anR zs) else if gb (anR zs) 0 = repK (an6 zs) then 10 else if manyB (an6 zs) (anD zs) = true ∨ manyB (an6 zs) (anS zs) = true ∨ anS zs = z16 then 5 else 0
def ekM (zs : List Int) : List Int := ewM (kdK (an6 zs) true) (skV (an6 zs) (anD zs) (anS zs) (kdK (an6 zs) true :: 0 :: 0 :: 0 :: ewX (w16 (anR zs) 4) (w16 (anR zs) 6) ((anR zs).drop 8))) (ewX (w16 (anR zs) 4) (w16 (anR zs) 6) ((anR zs).drop 8))
def ekV (zs : List Int) : AV × List (List AV) := if ¬ ekE zs = 0 then ewE (ekE zs) else if 1652 < ((anR zs).drop 8).length then ewE 3 else pkV (an6 zs) (anD zs) (anS zs) (ekM zs)
theorem ec_ok {v6 : Bool} {ss ds zs : List Int} (h : ecE v6 ss ds zs = 0) : 8 ≤ zs.length := by
  unfold ecE at h
  split at h
  · cases h
  · omega
set_option maxHeartbeats 64000000 in
theorem aecho_run (zs : List Int) (nn : Bool) (cap : Option Nat) (hl : zs.length ≤ 500000) (hz : bytesB zs = true) : runF Try.prog KAJ Dm 100000 3 46 [.sl nn (B8 zs) zs.length cap] = some (ekV zs) := by
  have hal := fun (px : Nat) (args : List AV) (m : Mem) (hl : args.length ≤ Try.f103.ntmps) => pvCall_own (P := Try.prog) (K := KAJ) (D := Dm) (L := 100000) (d := 1) (px := px) (args := args) (m := m) (f := 103) (fn := Try.f103) rfl Try.func103 rfl (by decide) rfl rfl hl
  have hal0 := fun (px : Nat) (args : List AV) (m : Mem) (hl : args.length ≤ Try.f103.ntmps) => pvCall_own (P := Try.prog) (K := KAJ) (D := Dm) (L := 100000) (d := 0) (px := px) (args := args) (m := m) (f := 103) (fn := Try.f103) rfl Try.func103 rfl (by decide) rfl rfl hl
  have hv2 := fun (px : Nat) (args : List AV) (m : Mem) (hl : args.length ≤ Try.f172.ntmps) => pvCall_own (P := Try.prog) (K := KAJ) (D := Dm) (L := 100000) (d := 1) (px := px) (args := args) (m := m) (f := 172) (fn := Try.f172) rfl Try.func172 rfl (by decide) rfl rfl hl
  have hv20 := fun (px : Nat) (args : List AV) (m : Mem) (hl : args.length ≤ Try.f172.ntmps) => pvCall_own (P := Try.prog) (K := KAJ) (D := Dm) (L := 100000) (d := 0) (px := px) (args := args) (m := m) (f := 172) (fn := Try.f172) rfl Try.func172 rfl (by decide) rfl rfl hl
  have hv4 := fun (px : Nat) (args : List AV) (m : Mem) (hl : args.length ≤ Try.f175.ntmps) => pvCall_own (P := Try.prog) (K := KAJ) (D := Dm) (L := 100000) (d := 1) (px := px) (args := args) (m := m) (f := 175) (fn := Try.f175) rfl Try.func175 rfl (by decide) rfl rfl hl
  have hv40 := fun (px : Nat) (args : List AV) (m : Mem) (hl : args.length ≤ Try.f175.ntmps) => pvCall_own (P := Try.prog) (K := KAJ) (D := Dm) (L := 100000) (d := 0) (px := px) (args := args) (m := m) (f := 175) (fn := Try.f175) rfl Try.func175 rfl (by decide) rfl rfl hl
  have hv1 := fun (px : Nat) (args : List AV) (m : Mem) (hl : args.length ≤ Try.f171.ntmps) => pvCall_own (P := Try.prog) (K := KAJ) (D := Dm) (L := 100000) (d := 1) (px := px) (args := args) (m := m) (f := 171) (fn := Try.f171) rfl Try.func171 rfl (by decide) rfl rfl hl
  have hv3 := fun (px : Nat) (args : List AV) (m : Mem) (hl : args.length ≤ Try.f174.ntmps) => pvCall_own (P := Try.prog) (K := KAJ) (D := Dm) (L := 100000) (d := 1) (px := px) (args := args) (m := m) (f := 174) (fn := Try.f174) rfl Try.func174 rfl (by decide) rfl rfl hl
  have hg : zs.length = zs.length ∧ zs.length ≤ 500000 ∧ bytesB zs = true := ⟨rfl, hl, hz⟩
  unfold runF ekV ekE
  rw [pvCall_own (fn := Try.f46) rfl Try.func46 rfl (by decide) rfl rfl (by simp)]
  by_cases he : anEr zs = 0
  case neg =>
    obtain ⟨v, n, V, h1, h2, h3, h4⟩ := an_err he
    have hen : (anEr zs == 0) = false := by simp [he]
    have hen2 : (anEr zs != 0) = true := by simp [he]
    rcases h4 with rfl | rfl | rfl <;> simp -implicitDefEqProofs [he, hen, hen2, h1, h2, h3, z16, verA, noVer, ewE, fAHead, ahV, hg, hal, hal0, hv2, hv20, hv4, hv40, hv1, hv3, hdA, splice, B8vc, B8vn, IntKind.bits, Nat.testBit_eq_decide_div_mod_eq]
  obtain ⟨h1, h2, h3, hS, hD, bS, bD, bR, hle, h20, hR6⟩ := an_ok hl hz he
  unfold ekM
  generalize hw : an6 zs = v6 at *
  generalize anS zs = S at *
  generalize anD zs = E at *
  generalize anR zs = R at *
  generalize anP zs = P at *
  generalize (anN zs : Int) = N at *
  have hgm : goodM S E R R.length := ⟨rfl, by omega, hS, hD, bR, bS, bD⟩
  by_cases hp : P = ownP v6
  case neg =>
    cases v6 with
    | true =>
      have hp : ¬ P = 58 := hp
      have hp2 : (P != 58) = true := by simp [hp]
      simp -implicitDefEqProofs [he, h1, h2, h3, hp, hp2, ownP, verA, ewE, hS, hD, fAHead, ahV, hg, hal, hal0, hv2, hv20, hv4, hv40, hv1, hv3, hdA, splice, B8vc, B8vn, IntKind.bits, Nat.testBit_eq_decide_div_mod_eq, B8t16 hS, B8d16 hS, B8t16 hD, B8d16 hD, B8t33 hS, B8t17 hD, B8d32 hS, B8d32 hD, B8t32 hS, B8d33 hS, B8d17 hD, B8d34 hS, B8d18 hD, B8t34 hS, B8t18 hD, B8d35 hS, B8d19 hD, B8t35 hS, B8t19 hD, B8t16 hD, B8t33 hD, B8t17 hS, B8d17 hS, B8d33 hD, B8d18 hS, B8t18 hS, -B8_append]
    | false =>
      have hp : ¬ P = 1 := hp
      have hp2 : (P != 1) = true := by simp [hp]
      simp -implicitDefEqProofs [he, h1, h2, h3, hp, hp2, ownP, verA, ewE, hS, hD, fAHead, ahV, hg, hal, hal0, hv2, hv20, hv4, hv40, hv1, hv3, hdA, splice, B8vc, B8vn, IntKind.bits, Nat.testBit_eq_decide_div_mod_eq, B8t16 hS, B8d16 hS, B8t16 hD, B8d16 hD, B8t33 hS, B8t17 hD, B8d32 hS, B8d32 hD, B8t32 hS, B8d33 hS, B8d17 hD, B8d34 hS, B8d18 hD, B8t34 hS, B8t18 hD, B8d35 hS, B8d19 hD, B8t35 hS, B8t19 hD, B8t16 hD, B8t33 hD, B8t17 hS, B8d17 hS, B8d33 hD, B8d18 hS, B8t18 hS, -B8_append]
  subst hp
  by_cases hc : ecE v6 S E R = 0
  case neg =>
    have hV : ecV v6 S E R = errE (ecE v6 S E R) := by unfold ecV; rw [if_neg hc]
    have hcn : (ecE v6 S E R == 0) = false := by simp [hc]
    have hcn2 : (ecE v6 S E R != 0) = true := by simp [hc]
    cases v6 <;> simp -implicitDefEqProofs [he, h1, h2, h3, hgm, fARead, hV, errE, noEch, echA, hc, hcn, hcn2, ownP, verA, ewE, hS, hD, fAHead, ahV, hg, hal, hal0, hv2, hv20, hv4, hv40, hv1, hv3, hdA, splice, B8vc, B8vn, IntKind.bits, Nat.testBit_eq_decide_div_mod_eq, B8t16 hS, B8d16 hS, B8t16 hD, B8d16 hD, B8t33 hS, B8t17 hD, B8d32 hS, B8d32 hD, B8t32 hS, B8d33 hS, B8d17 hD, B8d34 hS, B8d18 hD, B8t34 hS, B8t18 hD, B8d35 hS, B8d19 hD, B8t35 hS, B8t19 hD, B8t16 hD, B8t33 hD, B8t17 hS, B8d17 hS, B8d33 hD, B8d18 hS, B8t18 hS, -B8_append]
  have h8 := ec_ok hc
  have hV : ecV v6 S E R = (.tup [echA (decide (gb R 0 = repK v6)) (w16 R 4) (w16 R 6) (.own 0 0 0 (R.length - 8) 1 (.whole 5)), .v (.int .i64 0)], [B8 (R.drop 8)]) := by unfold ecV; rw [if_pos hc]
  have hRl : (R.drop 8).length = R.length - 8 := by simp
  have bR8 := bytesB_drop bR 8
  have w4 := w16_range (bytesB_iff.1 bR) 4
  have w6 := w16_range (bytesB_iff.1 bR) 6
  generalize R.drop 8 = Q at *
  generalize w16 R 4 = id at *
  generalize w16 R 6 = nu at *
  by_cases hr : gb R 0 = repK v6
  · cases v6 <;> simp -implicitDefEqProofs [he, h1, h2, h3, hgm, fARead, hV, echA, hr, hc, ownP, verA, ewE, hS, hD, hRl, fAHead, ahV, hg, hal, hal0, hv2, hv20, hv4, hv40, hv1, hv3, hdA, splice, B8vc, B8vn, IntKind.bits, Nat.testBit_eq_decide_div_mod_eq, B8t16 hS, B8d16 hS, B8t16 hD, B8d16 hD, B8t33 hS, B8t17 hD, B8d32 hS, B8d32 hD, B8t32 hS, B8d33 hS, B8d17 hD, B8d34 hS, B8d18 hD, B8t34 hS, B8t18 hD, B8d35 hS, B8d19 hD, B8t35 hS, B8t19 hD, B8t16 hD, B8t33 hD, B8t17 hS, B8d17 hS, B8d33 hD, B8d18 hS, B8t18 hS, -B8_append]
  have s0 := B8_at00 S (by omega)
  have e0 := B8_at00 E (by omega)
  have eqS : eqV (S.map (Value.int .u8)) (z16.map (Value.int .u8)) = decide (S = z16) := eqV_ints (hS.trans rfl)
  have pkS := pairOk16 hS (show z16.length = 16 from rfl)
  simp only [z16, List.map_cons, List.map_nil] at eqS pkS
  have hQt : Q.take (R.length - 8) = Q := List.take_of_length_le (by omega)
  have hgw : goodE id nu E S Q (R.length - 8) := ⟨by omega, by omega, hD, hS, bR8, bD, bS, by omega, by omega, by omega, by omega⟩
  have g6 := good6_pk hD hS bD bS
  have g4 := good4_pk hD hS bD bS
  have a6 := asI6_at (cl := 0) (la := 0) (nx := 58) (pr := 58) (ho := 64) (cs := []) (len := 0) hD hS rfl
  have a4 := asI4_at (tos := 0) (id := 0) (df := false) (ttl := 64) (pr := 1) (cs := []) (len := 0) hD hS rfl
  simp only [B8vn] at a6 a4
  have t1 : S.take 16 = S := List.take_of_length_le (by omega)
  have t2 : E.take 16 = E := List.take_of_length_le (by omega)
  obtain rfl | rfl : v6 = true ∨ v6 = false := by cases v6 <;> simp
  · by_cases mE : manyB true E = true
    · have mEb : (gb E 0 == 255) = true := by simpa [manyB] using mE
      simp -implicitDefEqProofs [mE, mEb, hQt, he, h1, h2, h3, hgm, fARead, hV, echA, hr, hc, ownP, verA, hS, hD, hRl, s0, e0, eqS, pkS, t1, t2, bS, bD, fAHead, ahV, hg, hal, hal0, hv2, hv20, hv4, hv40, hv1, hv3, hdA, splice, B8vc, B8vn, IntKind.bits, Nat.testBit_eq_decide_div_mod_eq, B8t16 hS, B8d16 hS, B8t16 hD, B8d16 hD, B8t33 hS, B8t17 hD, B8d32 hS, B8d32 hD, B8t32 hS, B8d33 hS, B8d17 hD, B8d34 hS, B8d18 hD, B8t34 hS, B8t18 hD, B8d35 hS, B8d19 hD, B8t35 hS, B8t19 hD, B8t16 hD, B8t33 hD, B8t17 hS, B8d17 hS, B8d33 hD, B8d18 hS, B8t18 hS, -B8_append, ewE]
    have mEb : (gb E 0 == 255) = false := by simpa [manyB] using mE
    by_cases mS : manyB true S = true
    · have mSb : (gb S 0 == 255) = true := by simpa [manyB] using mS
      simp -implicitDefEqProofs [mE, mS, mEb, mSb, hQt, he, h1, h2, h3, hgm, fARead, hV, echA, hr, hc, ownP, verA, hS, hD, hRl, s0, e0, eqS, pkS, t1, t2, bS, bD, fAHead, ahV, hg, hal, hal0, hv2, hv20, hv4, hv40, hv1, hv3, hdA, splice, B8vc, B8vn, IntKind.bits, Nat.testBit_eq_decide_div_mod_eq, B8t16 hS, B8d16 hS, B8t16 hD, B8d16 hD, B8t33 hS, B8t17 hD, B8d32 hS, B8d32 hD, B8t32 hS, B8d33 hS, B8d17 hD, B8d34 hS, B8d18 hD, B8t34 hS, B8t18 hD, B8d35 hS, B8d19 hD, B8t35 hS, B8t19 hD, B8t16 hD, B8t33 hD, B8t17 hS, B8d17 hS, B8d33 hD, B8d18 hS, B8t18 hS, -B8_append, ewE]
    have mSb : (gb S 0 == 255) = false := by simpa [manyB] using mS
    by_cases hz0 : S = z16
    · have hz1 : (S = z16) = True := by simp [hz0]
      have hzl : (S = [0, 0, 0, 0, 0, 0, 0, 0, 0, 0, 0, 0, 0, 0, 0, 0]) = True := hz1
      simp -implicitDefEqProofs [mE, mS, mEb, mSb, hQt, he, h1, h2, h3, hgm, fARead, hV, echA, hr, hc, ownP, verA, hS, hD, hRl, s0, e0, eqS, pkS, t1, t2, bS, bD, fAHead, ahV, hg, hal, hal0, hv2, hv20, hv4, hv40, hv1, hv3, hdA, splice, B8vc, B8vn, IntKind.bits, Nat.testBit_eq_decide_div_mod_eq, B8t16 hS, B8d16 hS, B8t16 hD, B8d16 hD, B8t33 hS, B8t17 hD, B8d32 hS, B8d32 hD, B8t32 hS, B8d33 hS, B8d17 hD, B8d34 hS, B8d18 hD, B8t34 hS, B8t18 hD, B8d35 hS, B8d19 hD, B8t35 hS, B8t19 hD, B8t16 hD, B8t33 hD, B8t17 hS, B8d17 hS, B8d33 hD, B8d18 hS, B8t18 hS, -B8_append, hz1, hzl, ewE]
    have hz1 : (S = z16) = False := by simp [hz0]
    have hzl : (S = [0, 0, 0, 0, 0, 0, 0, 0, 0, 0, 0, 0, 0, 0, 0, 0]) = False := hz1
    by_cases hq : 1652 < Q.length
    · have hq2 : 1652 < R.length - 8 := by omega
      have hW : ewV true E S true id nu Q = ewE 3 := by unfold ewV; rw [if_pos hq]
      simp -implicitDefEqProofs [mE, mS, mEb, mSb, hQt, he, h1, h2, h3, hgm, fARead, hV, echA, hr, hc, ownP, verA, hS, hD, hRl, s0, e0, eqS, pkS, t1, t2, bS, bD, fAHead, ahV, hg, hal, hal0, hv2, hv20, hv4, hv40, hv1, hv3, hdA, splice, B8vc, B8vn, IntKind.bits, Nat.testBit_eq_decide_div_mod_eq, B8t16 hS, B8d16 hS, B8t16 hD, B8d16 hD, B8t33 hS, B8t17 hD, B8d32 hS, B8d32 hD, B8t32 hS, B8d33 hS, B8d17 hD, B8d34 hS, B8d18 hD, B8t34 hS, B8t18 hD, B8d35 hS, B8d19 hD, B8t35 hS, B8t19 hD, B8t16 hD, B8t33 hD, B8t17 hS, B8d17 hS, B8d33 hD, B8d18 hS, B8t18 hS, -B8_append, hz1, hzl, hq, hq2, hgw, fAWrite, hW, ewE]
    have hW : ewV true E S true id nu Q = ewC (ewM (kdK true true) (skV true E S (kdK true true :: 0 :: 0 :: 0 :: ewX id nu Q)) (ewX id nu Q)) := by unfold ewV; rw [if_neg hq]
    have hMl : (ewM (kdK true true) (skV true E S (kdK true true :: 0 :: 0 :: 0 :: ewX id nu Q)) (ewX id nu Q)).length ≤ 500000 := by simp [ewM, ewX]; omega
    generalize ewM (kdK true true) (skV true E S (kdK true true :: 0 :: 0 :: 0 :: ewX id nu Q)) (ewX id nu Q) = M at *
    have hq2 : ¬ 1652 < R.length - 8 := by omega
    have hMl2 : M.length ≤ 9223372036854775807 := by omega
    have hMt : M.take M.length = M := List.take_length
    rcases pk_form true E S M with ⟨e, ne, hP⟩ | ⟨W, hP⟩
    · have hP2 : w6V 0 0 58 58 64 E S [] M = ewE e := hP
      simp -implicitDefEqProofs [mE, mS, mEb, mSb, hQt, he, h1, h2, h3, hgm, fARead, hV, echA, hr, hc, ownP, verA, hS, hD, hRl, s0, e0, eqS, pkS, t1, t2, bS, bD, fAHead, ahV, hg, hal, hal0, hv2, hv20, hv4, hv40, hv1, hv3, hdA, splice, B8vc, B8vn, IntKind.bits, Nat.testBit_eq_decide_div_mod_eq, B8t16 hS, B8d16 hS, B8t16 hD, B8d16 hD, B8t33 hS, B8t17 hD, B8d32 hS, B8d32 hD, B8t32 hS, B8d33 hS, B8d17 hD, B8d34 hS, B8d18 hD, B8t34 hS, B8t18 hD, B8d35 hS, B8d19 hD, B8t35 hS, B8t19 hD, B8t16 hD, B8t33 hD, B8t17 hS, B8d17 hS, B8d33 hD, B8d18 hS, B8t18 hS, -B8_append, hz1, hzl, hq, hq2, hgw, fAWrite, hW, hMl, hMl2, hMt, hP, hP2, g6, g4, a6, a4, fW6, fW4, ewE, ewC]
    · have hP2 : w6V 0 0 58 58 64 E S [] M = ewC W := hP
      simp -implicitDefEqProofs [mE, mS, mEb, mSb, hQt, he, h1, h2, h3, hgm, fARead, hV, echA, hr, hc, ownP, verA, hS, hD, hRl, s0, e0, eqS, pkS, t1, t2, bS, bD, fAHead, ahV, hg, hal, hal0, hv2, hv20, hv4, hv40, hv1, hv3, hdA, splice, B8vc, B8vn, IntKind.bits, Nat.testBit_eq_decide_div_mod_eq, B8t16 hS, B8d16 hS, B8t16 hD, B8d16 hD, B8t33 hS, B8t17 hD, B8d32 hS, B8d32 hD, B8t32 hS, B8d33 hS, B8d17 hD, B8d34 hS, B8d18 hD, B8t34 hS, B8t18 hD, B8d35 hS, B8d19 hD, B8t35 hS, B8t19 hD, B8t16 hD, B8t33 hD, B8t17 hS, B8d17 hS, B8d33 hD, B8d18 hS, B8t18 hS, -B8_append, hz1, hzl, hq, hq2, hgw, fAWrite, hW, hMl, hMl2, hMt, hP, hP2, g6, g4, a6, a4, fW6, fW4, ewE, ewC]
  · by_cases mE : manyB false E = true
    · have mEb :  224 ≤ gb E 0 := by simpa [manyB] using mE
      simp -implicitDefEqProofs [mE, mEb, hQt, he, h1, h2, h3, hgm, fARead, hV, echA, hr, hc, ownP, verA, hS, hD, hRl, s0, e0, eqS, pkS, t1, t2, bS, bD, fAHead, ahV, hg, hal, hal0, hv2, hv20, hv4, hv40, hv1, hv3, hdA, splice, B8vc, B8vn, IntKind.bits, Nat.testBit_eq_decide_div_mod_eq, B8t16 hS, B8d16 hS, B8t16 hD, B8d16 hD, B8t33 hS, B8t17 hD, B8d32 hS, B8d32 hD, B8t32 hS, B8d33 hS, B8d17 hD, B8d34 hS, B8d18 hD, B8t34 hS, B8t18 hD, B8d35 hS, B8d19 hD, B8t35 hS, B8t19 hD, B8t16 hD, B8t33 hD, B8t17 hS, B8d17 hS, B8d33 hD, B8d18 hS, B8t18 hS, -B8_append, ewE]
    have mEb : ¬ 224 ≤ gb E 0 := by simpa [manyB] using mE
    by_cases mS : manyB false S = true
    · have mSb :  224 ≤ gb S 0 := by simpa [manyB] using mS
      simp -implicitDefEqProofs [mE, mS, mEb, mSb, hQt, he, h1, h2, h3, hgm, fARead, hV, echA, hr, hc, ownP, verA, hS, hD, hRl, s0, e0, eqS, pkS, t1, t2, bS, bD, fAHead, ahV, hg, hal, hal0, hv2, hv20, hv4, hv40, hv1, hv3, hdA, splice, B8vc, B8vn, IntKind.bits, Nat.testBit_eq_decide_div_mod_eq, B8t16 hS, B8d16 hS, B8t16 hD, B8d16 hD, B8t33 hS, B8t17 hD, B8d32 hS, B8d32 hD, B8t32 hS, B8d33 hS, B8d17 hD, B8d34 hS, B8d18 hD, B8t34 hS, B8t18 hD, B8d35 hS, B8d19 hD, B8t35 hS, B8t19 hD, B8t16 hD, B8t33 hD, B8t17 hS, B8d17 hS, B8d33 hD, B8d18 hS, B8t18 hS, -B8_append, ewE]
    have mSb : ¬ 224 ≤ gb S 0 := by simpa [manyB] using mS
    by_cases hz0 : S = z16
    · have hz1 : (S = z16) = True := by simp [hz0]
      have hzl : (S = [0, 0, 0, 0, 0, 0, 0, 0, 0, 0, 0, 0, 0, 0, 0, 0]) = True := hz1
      simp -implicitDefEqProofs [mE, mS, mEb, mSb, hQt, he, h1, h2, h3, hgm, fARead, hV, echA, hr, hc, ownP, verA, hS, hD, hRl, s0, e0, eqS, pkS, t1, t2, bS, bD, fAHead, ahV, hg, hal, hal0, hv2, hv20, hv4, hv40, hv1, hv3, hdA, splice, B8vc, B8vn, IntKind.bits, Nat.testBit_eq_decide_div_mod_eq, B8t16 hS, B8d16 hS, B8t16 hD, B8d16 hD, B8t33 hS, B8t17 hD, B8d32 hS, B8d32 hD, B8t32 hS, B8d33 hS, B8d17 hD, B8d34 hS, B8d18 hD, B8t34 hS, B8t18 hD, B8d35 hS, B8d19 hD, B8t35 hS, B8t19 hD, B8t16 hD, B8t33 hD, B8t17 hS, B8d17 hS, B8d33 hD, B8d18 hS, B8t18 hS, -B8_append, hz1, hzl, ewE]
    have hz1 : (S = z16) = False := by simp [hz0]
    have hzl : (S = [0, 0, 0, 0, 0, 0, 0, 0, 0, 0, 0, 0, 0, 0, 0, 0]) = False := hz1
    by_cases hq : 1652 < Q.length
    · have hq2 : 1652 < R.length - 8 := by omega
      have hW : ewV false E S true id nu Q = ewE 3 := by unfold ewV; rw [if_pos hq]
      simp -implicitDefEqProofs [mE, mS, mEb, mSb, hQt, he, h1, h2, h3, hgm, fARead, hV, echA, hr, hc, ownP, verA, hS, hD, hRl, s0, e0, eqS, pkS, t1, t2, bS, bD, fAHead, ahV, hg, hal, hal0, hv2, hv20, hv4, hv40, hv1, hv3, hdA, splice, B8vc, B8vn, IntKind.bits, Nat.testBit_eq_decide_div_mod_eq, B8t16 hS, B8d16 hS, B8t16 hD, B8d16 hD, B8t33 hS, B8t17 hD, B8d32 hS, B8d32 hD, B8t32 hS, B8d33 hS, B8d17 hD, B8d34 hS, B8d18 hD, B8t34 hS, B8t18 hD, B8d35 hS, B8d19 hD, B8t35 hS, B8t19 hD, B8t16 hD, B8t33 hD, B8t17 hS, B8d17 hS, B8d33 hD, B8d18 hS, B8t18 hS, -B8_append, hz1, hzl, hq, hq2, hgw, fAWrite, hW, ewE]
    have hW : ewV false E S true id nu Q = ewC (ewM (kdK false true) (skV false E S (kdK false true :: 0 :: 0 :: 0 :: ewX id nu Q)) (ewX id nu Q)) := by unfold ewV; rw [if_neg hq]
    have hMl : (ewM (kdK false true) (skV false E S (kdK false true :: 0 :: 0 :: 0 :: ewX id nu Q)) (ewX id nu Q)).length ≤ 500000 := by simp [ewM, ewX]; omega
    generalize ewM (kdK false true) (skV false E S (kdK false true :: 0 :: 0 :: 0 :: ewX id nu Q)) (ewX id nu Q) = M at *
    have hq2 : ¬ 1652 < R.length - 8 := by omega
    have hMl2 : M.length ≤ 9223372036854775807 := by omega
    have hMt : M.take M.length = M := List.take_length
    rcases pk_form false E S M with ⟨e, ne, hP⟩ | ⟨W, hP⟩
    · have hP2 : w4V 0 0 false 64 1 E S [] M = ewE e := hP
      simp -implicitDefEqProofs [mE, mS, mEb, mSb, hQt, he, h1, h2, h3, hgm, fARead, hV, echA, hr, hc, ownP, verA, hS, hD, hRl, s0, e0, eqS, pkS, t1, t2, bS, bD, fAHead, ahV, hg, hal, hal0, hv2, hv20, hv4, hv40, hv1, hv3, hdA, splice, B8vc, B8vn, IntKind.bits, Nat.testBit_eq_decide_div_mod_eq, B8t16 hS, B8d16 hS, B8t16 hD, B8d16 hD, B8t33 hS, B8t17 hD, B8d32 hS, B8d32 hD, B8t32 hS, B8d33 hS, B8d17 hD, B8d34 hS, B8d18 hD, B8t34 hS, B8t18 hD, B8d35 hS, B8d19 hD, B8t35 hS, B8t19 hD, B8t16 hD, B8t33 hD, B8t17 hS, B8d17 hS, B8d33 hD, B8d18 hS, B8t18 hS, -B8_append, hz1, hzl, hq, hq2, hgw, fAWrite, hW, hMl, hMl2, hMt, hP, hP2, g6, g4, a6, a4, fW6, fW4, ewE, ewC]
    · have hP2 : w4V 0 0 false 64 1 E S [] M = ewC W := hP
      simp -implicitDefEqProofs [mE, mS, mEb, mSb, hQt, he, h1, h2, h3, hgm, fARead, hV, echA, hr, hc, ownP, verA, hS, hD, hRl, s0, e0, eqS, pkS, t1, t2, bS, bD, fAHead, ahV, hg, hal, hal0, hv2, hv20, hv4, hv40, hv1, hv3, hdA, splice, B8vc, B8vn, IntKind.bits, Nat.testBit_eq_decide_div_mod_eq, B8t16 hS, B8d16 hS, B8t16 hD, B8d16 hD, B8t33 hS, B8t17 hD, B8d32 hS, B8d32 hD, B8t32 hS, B8d33 hS, B8d17 hD, B8d34 hS, B8d18 hD, B8t34 hS, B8t18 hD, B8d35 hS, B8d19 hD, B8t35 hS, B8t19 hD, B8t16 hD, B8t33 hD, B8t17 hS, B8d17 hS, B8d33 hD, B8d18 hS, B8t18 hS, -B8_append, hz1, hzl, hq, hq2, hgw, fAWrite, hW, hMl, hMl2, hMt, hP, hP2, g6, g4, a6, a4, fW6, fW4, ewE, ewC]
set_option maxHeartbeats 64000000 in
theorem arecho_run (zs : List Int) (nn : Bool) (cap : Option Nat) (hl : zs.length ≤ 500000) (hz : bytesB zs = true) : runF Try.prog KAJ Dm 100000 1 47 [.sl nn (B8 zs) zs.length cap] = some (ekV zs) := by
  have hg : zs.length = zs.length ∧ zs.length ≤ 500000 ∧ bytesB zs = true := ⟨rfl, hl, hz⟩
  unfold runF ekV ekE
  rw [pvCall_own (fn := Try.f47) rfl Try.func47 rfl (by decide) rfl rfl (by simp)]
  by_cases he : anEr zs = 0
  case neg =>
    obtain ⟨v, n, V, h1, h2, h3, h4⟩ := an_err he
    have hen : (anEr zs == 0) = false := by simp [he]
    have hen2 : (anEr zs != 0) = true := by simp [he]
    rcases h4 with rfl | rfl | rfl <;> simp -implicitDefEqProofs [he, hen, hen2, h1, h2, h3, z16, verA, noVer, ewE, fARHead, arhV, fAOwn, fAMany, fAPack, fAZero, hg, hdA, splice, B8vc, B8vn, IntKind.bits, Nat.testBit_eq_decide_div_mod_eq]
  obtain ⟨h1, h2, h3, hS, hD, bS, bD, bR, hle, h20, hR6⟩ := an_ok hl hz he
  unfold ekM
  generalize hw : an6 zs = v6 at *
  generalize anS zs = S at *
  generalize anD zs = E at *
  generalize anR zs = R at *
  generalize anP zs = P at *
  generalize (anN zs : Int) = N at *
  have hgm : goodM S E R R.length := ⟨rfl, by omega, hS, hD, bR, bS, bD⟩
  by_cases hp : P = ownP v6
  case neg =>
    cases v6 with
    | true =>
      have hp : ¬ P = 58 := hp
      have hp2 : (P != 58) = true := by simp [hp]
      simp -implicitDefEqProofs [he, h1, h2, h3, hp, hp2, ownP, verA, ewE, hS, hD, fARHead, arhV, fAOwn, fAMany, fAPack, fAZero, hg, hdA, splice, B8vc, B8vn, IntKind.bits, Nat.testBit_eq_decide_div_mod_eq, B8t16 hS, B8d16 hS, B8t16 hD, B8d16 hD, B8t33 hS, B8t17 hD, B8d32 hS, B8d32 hD, B8t32 hS, B8d33 hS, B8d17 hD, B8d34 hS, B8d18 hD, B8t34 hS, B8t18 hD, B8d35 hS, B8d19 hD, B8t35 hS, B8t19 hD, B8t16 hD, B8t33 hD, B8t17 hS, B8d17 hS, B8d33 hD, B8d18 hS, B8t18 hS, -B8_append]
    | false =>
      have hp : ¬ P = 1 := hp
      have hp2 : (P != 1) = true := by simp [hp]
      simp -implicitDefEqProofs [he, h1, h2, h3, hp, hp2, ownP, verA, ewE, hS, hD, fARHead, arhV, fAOwn, fAMany, fAPack, fAZero, hg, hdA, splice, B8vc, B8vn, IntKind.bits, Nat.testBit_eq_decide_div_mod_eq, B8t16 hS, B8d16 hS, B8t16 hD, B8d16 hD, B8t33 hS, B8t17 hD, B8d32 hS, B8d32 hD, B8t32 hS, B8d33 hS, B8d17 hD, B8d34 hS, B8d18 hD, B8t34 hS, B8t18 hD, B8d35 hS, B8d19 hD, B8t35 hS, B8t19 hD, B8t16 hD, B8t33 hD, B8t17 hS, B8d17 hS, B8d33 hD, B8d18 hS, B8t18 hS, -B8_append]
  subst hp
  by_cases hc : ecE v6 S E R = 0
  case neg =>
    have hV : ecV v6 S E R = errE (ecE v6 S E R) := by unfold ecV; rw [if_neg hc]
    have hcn : (ecE v6 S E R == 0) = false := by simp [hc]
    have hcn2 : (ecE v6 S E R != 0) = true := by simp [hc]
    cases v6 <;> simp -implicitDefEqProofs [he, h1, h2, h3, hgm, fARead, hV, errE, noEch, echA, hc, hcn, hcn2, ownP, verA, ewE, hS, hD, fARHead, arhV, fAOwn, fAMany, fAPack, fAZero, hg, hdA, splice, B8vc, B8vn, IntKind.bits, Nat.testBit_eq_decide_div_mod_eq, B8t16 hS, B8d16 hS, B8t16 hD, B8d16 hD, B8t33 hS, B8t17 hD, B8d32 hS, B8d32 hD, B8t32 hS, B8d33 hS, B8d17 hD, B8d34 hS, B8d18 hD, B8t34 hS, B8t18 hD, B8d35 hS, B8d19 hD, B8t35 hS, B8t19 hD, B8t16 hD, B8t33 hD, B8t17 hS, B8d17 hS, B8d33 hD, B8d18 hS, B8t18 hS, -B8_append]
  have h8 := ec_ok hc
  have hV : ecV v6 S E R = (.tup [echA (decide (gb R 0 = repK v6)) (w16 R 4) (w16 R 6) (.own 0 0 0 (R.length - 8) 1 (.whole 5)), .v (.int .i64 0)], [B8 (R.drop 8)]) := by unfold ecV; rw [if_pos hc]
  have hRl : (R.drop 8).length = R.length - 8 := by simp
  have bR8 := bytesB_drop bR 8
  have w4 := w16_range (bytesB_iff.1 bR) 4
  have w6 := w16_range (bytesB_iff.1 bR) 6
  generalize R.drop 8 = Q at *
  generalize w16 R 4 = id at *
  generalize w16 R 6 = nu at *
  by_cases hr : gb R 0 = repK v6
  · cases v6 <;> simp -implicitDefEqProofs [he, h1, h2, h3, hgm, fARead, hV, echA, hr, hc, ownP, verA, ewE, hS, hD, hRl, fARHead, arhV, fAOwn, fAMany, fAPack, fAZero, hg, hdA, splice, B8vc, B8vn, IntKind.bits, Nat.testBit_eq_decide_div_mod_eq, B8t16 hS, B8d16 hS, B8t16 hD, B8d16 hD, B8t33 hS, B8t17 hD, B8d32 hS, B8d32 hD, B8t32 hS, B8d33 hS, B8d17 hD, B8d34 hS, B8d18 hD, B8t34 hS, B8t18 hD, B8d35 hS, B8d19 hD, B8t35 hS, B8t19 hD, B8t16 hD, B8t33 hD, B8t17 hS, B8d17 hS, B8d33 hD, B8d18 hS, B8t18 hS, -B8_append]
  have s0 := B8_at00 S (by omega)
  have e0 := B8_at00 E (by omega)
  have eqS : eqV (S.map (Value.int .u8)) (z16.map (Value.int .u8)) = decide (S = z16) := eqV_ints (hS.trans rfl)
  have pkS := pairOk16 hS (show z16.length = 16 from rfl)
  simp only [z16, List.map_cons, List.map_nil] at eqS pkS
  have hQt : Q.take (R.length - 8) = Q := List.take_of_length_le (by omega)
  have hgw : goodE id nu E S Q (R.length - 8) := ⟨by omega, by omega, hD, hS, bR8, bD, bS, by omega, by omega, by omega, by omega⟩
  have g6 := good6_pk hD hS bD bS
  have g4 := good4_pk hD hS bD bS
  have a6 := asI6_at (cl := 0) (la := 0) (nx := 58) (pr := 58) (ho := 64) (cs := []) (len := 0) hD hS rfl
  have a4 := asI4_at (tos := 0) (id := 0) (df := false) (ttl := 64) (pr := 1) (cs := []) (len := 0) hD hS rfl
  simp only [B8vn] at a6 a4
  have t1 : S.take 16 = S := List.take_of_length_le (by omega)
  have t2 : E.take 16 = E := List.take_of_length_le (by omega)
  obtain rfl | rfl : v6 = true ∨ v6 = false := by cases v6 <;> simp
  · by_cases mE : manyB true E = true
    · simp -implicitDefEqProofs [mE, hQt, he, h1, h2, h3, hgm, fARead, hV, echA, hr, hc, ownP, verA, hS, hD, hRl, s0, e0, eqS, pkS, t1, t2, bS, bD, fARHead, arhV, fAOwn, fAMany, fAPack, fAZero, hg, hdA, splice, B8vc, B8vn, IntKind.bits, Nat.testBit_eq_decide_div_mod_eq, B8t16 hS, B8d16 hS, B8t16 hD, B8d16 hD, B8t33 hS, B8t17 hD, B8d32 hS, B8d32 hD, B8t32 hS, B8d33 hS, B8d17 hD, B8d34 hS, B8d18 hD, B8t34 hS, B8t18 hD, B8d35 hS, B8d19 hD, B8t35 hS, B8t19 hD, B8t16 hD, B8t33 hD, B8t17 hS, B8d17 hS, B8d33 hD, B8d18 hS, B8t18 hS, -B8_append, ewE]
    by_cases mS : manyB true S = true
    · simp -implicitDefEqProofs [mE, mS, hQt, he, h1, h2, h3, hgm, fARead, hV, echA, hr, hc, ownP, verA, hS, hD, hRl, s0, e0, eqS, pkS, t1, t2, bS, bD, fARHead, arhV, fAOwn, fAMany, fAPack, fAZero, hg, hdA, splice, B8vc, B8vn, IntKind.bits, Nat.testBit_eq_decide_div_mod_eq, B8t16 hS, B8d16 hS, B8t16 hD, B8d16 hD, B8t33 hS, B8t17 hD, B8d32 hS, B8d32 hD, B8t32 hS, B8d33 hS, B8d17 hD, B8d34 hS, B8d18 hD, B8t34 hS, B8t18 hD, B8d35 hS, B8d19 hD, B8t35 hS, B8t19 hD, B8t16 hD, B8t33 hD, B8t17 hS, B8d17 hS, B8d33 hD, B8d18 hS, B8t18 hS, -B8_append, ewE]
    by_cases hz0 : S = z16
    · have hz1 : (S = z16) = True := by simp [hz0]
      have hzl : (S = [0, 0, 0, 0, 0, 0, 0, 0, 0, 0, 0, 0, 0, 0, 0, 0]) = True := hz1
      simp -implicitDefEqProofs [mE, mS, hQt, he, h1, h2, h3, hgm, fARead, hV, echA, hr, hc, ownP, verA, hS, hD, hRl, s0, e0, eqS, pkS, t1, t2, bS, bD, fARHead, arhV, fAOwn, fAMany, fAPack, fAZero, hg, hdA, splice, B8vc, B8vn, IntKind.bits, Nat.testBit_eq_decide_div_mod_eq, B8t16 hS, B8d16 hS, B8t16 hD, B8d16 hD, B8t33 hS, B8t17 hD, B8d32 hS, B8d32 hD, B8t32 hS, B8d33 hS, B8d17 hD, B8d34 hS, B8d18 hD, B8t34 hS, B8t18 hD, B8d35 hS, B8d19 hD, B8t35 hS, B8t19 hD, B8t16 hD, B8t33 hD, B8t17 hS, B8d17 hS, B8d33 hD, B8d18 hS, B8t18 hS, -B8_append, hz1, hzl, ewE]
    have hz1 : (S = z16) = False := by simp [hz0]
    have hzl : (S = [0, 0, 0, 0, 0, 0, 0, 0, 0, 0, 0, 0, 0, 0, 0, 0]) = False := hz1
    by_cases hq : 1652 < Q.length
    · have hq2 : 1652 < R.length - 8 := by omega
      have hW : ewV true E S true id nu Q = ewE 3 := by unfold ewV; rw [if_pos hq]
      simp -implicitDefEqProofs [mE, mS, hQt, he, h1, h2, h3, hgm, fARead, hV, echA, hr, hc, ownP, verA, hS, hD, hRl, s0, e0, eqS, pkS, t1, t2, bS, bD, fARHead, arhV, fAOwn, fAMany, fAPack, fAZero, hg, hdA, splice, B8vc, B8vn, IntKind.bits, Nat.testBit_eq_decide_div_mod_eq, B8t16 hS, B8d16 hS, B8t16 hD, B8d16 hD, B8t33 hS, B8t17 hD, B8d32 hS, B8d32 hD, B8t32 hS, B8d33 hS, B8d17 hD, B8d34 hS, B8d18 hD, B8t34 hS, B8t18 hD, B8d35 hS, B8d19 hD, B8t35 hS, B8t19 hD, B8t16 hD, B8t33 hD, B8t17 hS, B8d17 hS, B8d33 hD, B8d18 hS, B8t18 hS, -B8_append, hz1, hzl, hq, hq2, hgw, fAWrite, hW, ewE]
    have hW : ewV true E S true id nu Q = ewC (ewM (kdK true true) (skV true E S (kdK true true :: 0 :: 0 :: 0 :: ewX id nu Q)) (ewX id nu Q)) := by unfold ewV; rw [if_neg hq]
    have hMl : (ewM (kdK true true) (skV true E S (kdK true true :: 0 :: 0 :: 0 :: ewX id nu Q)) (ewX id nu Q)).length ≤ 500000 := by simp [ewM, ewX]; omega
    generalize ewM (kdK true true) (skV true E S (kdK true true :: 0 :: 0 :: 0 :: ewX id nu Q)) (ewX id nu Q) = M at *
    have hq2 : ¬ 1652 < R.length - 8 := by omega
    have hMl2 : M.length ≤ 9223372036854775807 := by omega
    have hMt : M.take M.length = M := List.take_length
    rcases pk_form true E S M with ⟨e, ne, hP⟩ | ⟨W, hP⟩
    · have hP2 : w6V 0 0 58 58 64 E S [] M = ewE e := hP
      simp -implicitDefEqProofs [mE, mS, hQt, he, h1, h2, h3, hgm, fARead, hV, echA, hr, hc, ownP, verA, hS, hD, hRl, s0, e0, eqS, pkS, t1, t2, bS, bD, fARHead, arhV, fAOwn, fAMany, fAPack, fAZero, hg, hdA, splice, B8vc, B8vn, IntKind.bits, Nat.testBit_eq_decide_div_mod_eq, B8t16 hS, B8d16 hS, B8t16 hD, B8d16 hD, B8t33 hS, B8t17 hD, B8d32 hS, B8d32 hD, B8t32 hS, B8d33 hS, B8d17 hD, B8d34 hS, B8d18 hD, B8t34 hS, B8t18 hD, B8d35 hS, B8d19 hD, B8t35 hS, B8t19 hD, B8t16 hD, B8t33 hD, B8t17 hS, B8d17 hS, B8d33 hD, B8d18 hS, B8t18 hS, -B8_append, hz1, hzl, hq, hq2, hgw, fAWrite, hW, hMl, hMl2, hMt, hP, hP2, g6, g4, a6, a4, fW6, fW4, ewE, ewC]
    · have hP2 : w6V 0 0 58 58 64 E S [] M = ewC W := hP
      simp -implicitDefEqProofs [mE, mS, hQt, he, h1, h2, h3, hgm, fARead, hV, echA, hr, hc, ownP, verA, hS, hD, hRl, s0, e0, eqS, pkS, t1, t2, bS, bD, fARHead, arhV, fAOwn, fAMany, fAPack, fAZero, hg, hdA, splice, B8vc, B8vn, IntKind.bits, Nat.testBit_eq_decide_div_mod_eq, B8t16 hS, B8d16 hS, B8t16 hD, B8d16 hD, B8t33 hS, B8t17 hD, B8d32 hS, B8d32 hD, B8t32 hS, B8d33 hS, B8d17 hD, B8d34 hS, B8d18 hD, B8t34 hS, B8t18 hD, B8d35 hS, B8d19 hD, B8t35 hS, B8t19 hD, B8t16 hD, B8t33 hD, B8t17 hS, B8d17 hS, B8d33 hD, B8d18 hS, B8t18 hS, -B8_append, hz1, hzl, hq, hq2, hgw, fAWrite, hW, hMl, hMl2, hMt, hP, hP2, g6, g4, a6, a4, fW6, fW4, ewE, ewC]
  · by_cases mE : manyB false E = true
    · simp -implicitDefEqProofs [mE, hQt, he, h1, h2, h3, hgm, fARead, hV, echA, hr, hc, ownP, verA, hS, hD, hRl, s0, e0, eqS, pkS, t1, t2, bS, bD, fARHead, arhV, fAOwn, fAMany, fAPack, fAZero, hg, hdA, splice, B8vc, B8vn, IntKind.bits, Nat.testBit_eq_decide_div_mod_eq, B8t16 hS, B8d16 hS, B8t16 hD, B8d16 hD, B8t33 hS, B8t17 hD, B8d32 hS, B8d32 hD, B8t32 hS, B8d33 hS, B8d17 hD, B8d34 hS, B8d18 hD, B8t34 hS, B8t18 hD, B8d35 hS, B8d19 hD, B8t35 hS, B8t19 hD, B8t16 hD, B8t33 hD, B8t17 hS, B8d17 hS, B8d33 hD, B8d18 hS, B8t18 hS, -B8_append, ewE]
    by_cases mS : manyB false S = true
    · simp -implicitDefEqProofs [mE, mS, hQt, he, h1, h2, h3, hgm, fARead, hV, echA, hr, hc, ownP, verA, hS, hD, hRl, s0, e0, eqS, pkS, t1, t2, bS, bD, fARHead, arhV, fAOwn, fAMany, fAPack, fAZero, hg, hdA, splice, B8vc, B8vn, IntKind.bits, Nat.testBit_eq_decide_div_mod_eq, B8t16 hS, B8d16 hS, B8t16 hD, B8d16 hD, B8t33 hS, B8t17 hD, B8d32 hS, B8d32 hD, B8t32 hS, B8d33 hS, B8d17 hD, B8d34 hS, B8d18 hD, B8t34 hS, B8t18 hD, B8d35 hS, B8d19 hD, B8t35 hS, B8t19 hD, B8t16 hD, B8t33 hD, B8t17 hS, B8d17 hS, B8d33 hD, B8d18 hS, B8t18 hS, -B8_append, ewE]
    by_cases hz0 : S = z16
    · have hz1 : (S = z16) = True := by simp [hz0]
      have hzl : (S = [0, 0, 0, 0, 0, 0, 0, 0, 0, 0, 0, 0, 0, 0, 0, 0]) = True := hz1
      simp -implicitDefEqProofs [mE, mS, hQt, he, h1, h2, h3, hgm, fARead, hV, echA, hr, hc, ownP, verA, hS, hD, hRl, s0, e0, eqS, pkS, t1, t2, bS, bD, fARHead, arhV, fAOwn, fAMany, fAPack, fAZero, hg, hdA, splice, B8vc, B8vn, IntKind.bits, Nat.testBit_eq_decide_div_mod_eq, B8t16 hS, B8d16 hS, B8t16 hD, B8d16 hD, B8t33 hS, B8t17 hD, B8d32 hS, B8d32 hD, B8t32 hS, B8d33 hS, B8d17 hD, B8d34 hS, B8d18 hD, B8t34 hS, B8t18 hD, B8d35 hS, B8d19 hD, B8t35 hS, B8t19 hD, B8t16 hD, B8t33 hD, B8t17 hS, B8d17 hS, B8d33 hD, B8d18 hS, B8t18 hS, -B8_append, hz1, hzl, ewE]
    have hz1 : (S = z16) = False := by simp [hz0]
    have hzl : (S = [0, 0, 0, 0, 0, 0, 0, 0, 0, 0, 0, 0, 0, 0, 0, 0]) = False := hz1
    by_cases hq : 1652 < Q.length
    · have hq2 : 1652 < R.length - 8 := by omega
      have hW : ewV false E S true id nu Q = ewE 3 := by unfold ewV; rw [if_pos hq]
      simp -implicitDefEqProofs [mE, mS, hQt, he, h1, h2, h3, hgm, fARead, hV, echA, hr, hc, ownP, verA, hS, hD, hRl, s0, e0, eqS, pkS, t1, t2, bS, bD, fARHead, arhV, fAOwn, fAMany, fAPack, fAZero, hg, hdA, splice, B8vc, B8vn, IntKind.bits, Nat.testBit_eq_decide_div_mod_eq, B8t16 hS, B8d16 hS, B8t16 hD, B8d16 hD, B8t33 hS, B8t17 hD, B8d32 hS, B8d32 hD, B8t32 hS, B8d33 hS, B8d17 hD, B8d34 hS, B8d18 hD, B8t34 hS, B8t18 hD, B8d35 hS, B8d19 hD, B8t35 hS, B8t19 hD, B8t16 hD, B8t33 hD, B8t17 hS, B8d17 hS, B8d33 hD, B8d18 hS, B8t18 hS, -B8_append, hz1, hzl, hq, hq2, hgw, fAWrite, hW, ewE]
    have hW : ewV false E S true id nu Q = ewC (ewM (kdK false true) (skV false E S (kdK false true :: 0 :: 0 :: 0 :: ewX id nu Q)) (ewX id nu Q)) := by unfold ewV; rw [if_neg hq]
    have hMl : (ewM (kdK false true) (skV false E S (kdK false true :: 0 :: 0 :: 0 :: ewX id nu Q)) (ewX id nu Q)).length ≤ 500000 := by simp [ewM, ewX]; omega
    generalize ewM (kdK false true) (skV false E S (kdK false true :: 0 :: 0 :: 0 :: ewX id nu Q)) (ewX id nu Q) = M at *
    have hq2 : ¬ 1652 < R.length - 8 := by omega
    have hMl2 : M.length ≤ 9223372036854775807 := by omega
    have hMt : M.take M.length = M := List.take_length
    rcases pk_form false E S M with ⟨e, ne, hP⟩ | ⟨W, hP⟩
    · have hP2 : w4V 0 0 false 64 1 E S [] M = ewE e := hP
      simp -implicitDefEqProofs [mE, mS, hQt, he, h1, h2, h3, hgm, fARead, hV, echA, hr, hc, ownP, verA, hS, hD, hRl, s0, e0, eqS, pkS, t1, t2, bS, bD, fARHead, arhV, fAOwn, fAMany, fAPack, fAZero, hg, hdA, splice, B8vc, B8vn, IntKind.bits, Nat.testBit_eq_decide_div_mod_eq, B8t16 hS, B8d16 hS, B8t16 hD, B8d16 hD, B8t33 hS, B8t17 hD, B8d32 hS, B8d32 hD, B8t32 hS, B8d33 hS, B8d17 hD, B8d34 hS, B8d18 hD, B8t34 hS, B8t18 hD, B8d35 hS, B8d19 hD, B8t35 hS, B8t19 hD, B8t16 hD, B8t33 hD, B8t17 hS, B8d17 hS, B8d33 hD, B8d18 hS, B8t18 hS, -B8_append, hz1, hzl, hq, hq2, hgw, fAWrite, hW, hMl, hMl2, hMt, hP, hP2, g6, g4, a6, a4, fW6, fW4, ewE, ewC]
    · have hP2 : w4V 0 0 false 64 1 E S [] M = ewC W := hP
      simp -implicitDefEqProofs [mE, mS, hQt, he, h1, h2, h3, hgm, fARead, hV, echA, hr, hc, ownP, verA, hS, hD, hRl, s0, e0, eqS, pkS, t1, t2, bS, bD, fARHead, arhV, fAOwn, fAMany, fAPack, fAZero, hg, hdA, splice, B8vc, B8vn, IntKind.bits, Nat.testBit_eq_decide_div_mod_eq, B8t16 hS, B8d16 hS, B8t16 hD, B8d16 hD, B8t33 hS, B8t17 hD, B8d32 hS, B8d32 hD, B8t32 hS, B8d33 hS, B8d17 hD, B8d34 hS, B8d18 hD, B8t34 hS, B8t18 hD, B8d35 hS, B8d19 hD, B8t35 hS, B8t19 hD, B8t16 hD, B8t33 hD, B8t17 hS, B8d17 hS, B8d33 hD, B8d18 hS, B8t18 hS, -B8_append, hz1, hzl, hq, hq2, hgw, fAWrite, hW, hMl, hMl2, hMt, hP, hP2, g6, g4, a6, a4, fW6, fW4, ewE, ewC]
def fAEcho : Fun
  | [.sl nn b len cap] => (asB8 b).bind fun zs => if zs.length = len ∧ len ≤ 500000 ∧ bytesB zs = true then some (ekV zs) else none
  | _ => none
theorem aecho_pure : Pure Try.prog 46 fAEcho := (runF_pure kaj_ok follows_mixed dm_ok 100000 3 46).weaken fun args r h => by
  unfold fAEcho at h
  split at h
  · rename_i nn b len cap
    obtain ⟨zs, hz, he⟩ := Option.bind_eq_some_iff.1 h
    clear h
    split at he
    case isFalse => cases he
    rename_i hh
    obtain ⟨rfl, h1, h2⟩ := hh
    obtain rfl := asB8_eq hz
    rw [← he]
    exact aecho_run zs nn cap h1 h2
  · cases h
theorem arecho_pure : Pure Try.prog 47 fAEcho := (runF_pure kaj_ok follows_mixed dm_ok 100000 1 47).weaken fun args r h => by
  unfold fAEcho at h
  split at h
  · rename_i nn b len cap
    obtain ⟨zs, hz, he⟩ := Option.bind_eq_some_iff.1 h
    clear h
    split at he
    case isFalse => cases he
    rename_i hh
    obtain ⟨rfl, h1, h2⟩ := hh
    obtain rfl := asB8_eq hz
    rw [← he]
    exact arecho_run zs nn cap h1 h2
  · cases h
end Go.Proofs.Ytmdafjegddnecaa

/- ref37.Same, law37.known and the law AnswerReads as functions of values. -/
namespace Go.Proofs.Ytmdafjegddnecaa
open Go.Pm Go.Wb
set_option linter.unusedVariables false
set_option linter.unusedSimpArgs false
set_option maxRecDepth 1000000
set_option maxHeartbeats 8000000 in
theorem asame_run (re : Bool) (id nu : Int) (ps : List Int) (on : Bool) (oc : Option Nat) (on' : Bool) (oc' : Option Nat) (hl : ps.length ≤ 500000) :
    runF Try.prog KAI Dm 100000 1 42 [echA re id nu (.sl on (B8 ps) ps.length oc), echA re id nu (.sl on' (B8 ps) ps.length oc')] = some (.v (.bool true), []) := by
  have l1 : ps.length ≤ 9223372036854775807 := by omega
  unfold runF
  rw [pvCall_own (fn := Try.f42) rfl Try.func42 rfl (by decide) rfl rfl (by simp)]
  cases re <;> simp -implicitDefEqProofs [Nat.testBit_eq_decide_div_mod_eq, echA, splice, IntKind.bits, l1, hl]
def fASame : Fun := fun args => match args.map AV.norm with
  | [.agg [.v (.bool r1), .v (.int .u16 i1), .v (.int .u16 n1), .sl a1 b1 l1 c1], .agg [.v (.bool r2), .v (.int .u16 i2), .v (.int .u16 n2), .sl a2 b2 l2 c2]] => (asB8 b1).bind fun p => (asB8 b2).bind fun q => if r1 = r2 ∧ i1 = i2 ∧ n1 = n2 ∧ p = q ∧ p.length = l1 ∧ q.length = l2 ∧ l1 ≤ 500000 then some (.v (.bool true), []) else none
  | _ => none
theorem asame_pure : Pure Try.prog 42 fASame := ((runF_pure kai_ok follows_mixed dm_ok 100000 1 42).norm).weaken fun args r h => by
  unfold fASame at h
  generalize args.map AV.norm = args at h ⊢
  split at h
  · rename_i r1 i1 n1 a1 b1 l1 c1 r2 i2 n2 a2 b2 l2 c2
    obtain ⟨p, e1, h1⟩ := Option.bind_eq_some_iff.1 h
    obtain ⟨q, e2, he⟩ := Option.bind_eq_some_iff.1 h1
    clear h h1
    split at he
    case isFalse => cases he
    rename_i hh
    obtain ⟨rfl, rfl, rfl, rfl, rfl, x2, x3⟩ := hh
    obtain rfl := asB8_eq e1
    obtain rfl := asB8_eq e2
    subst x2
    rw [← he]
    exact asame_run _ _ _ _ _ _ _ _ x3
  · cases h
noncomputable def KAK0 : Nat → Option Con
  | 40 => some fAWrite
  | 43 => some fW4
  | 46 => some fAEcho
  | 52 => some fIP4
  | 38 => some fARead
  | 42 => some fASame
  | _ => none
theorem kak0_ok : KOk Try.prog KAK0 := fun f F h => by
  unfold KAK0 at h
  split at h
  · cases h; exact ⟨awrite_pure, _, Try.func40, rfl, by decide⟩
  · cases h; exact ⟨w4_pure, _, Try.func43, rfl, by decide⟩
  · cases h; exact ⟨aecho_pure, _, Try.func46, rfl, by decide⟩
  · cases h; exact ⟨ip4_pure, _, Try.func52, rfl, by decide⟩
  · cases h; exact ⟨aread_pure, _, Try.func38, rfl, by decide⟩
  · cases h; exact ⟨asame_pure, _, Try.func42, rfl, by decide⟩
  · cases h
section
variable {D : FuncId → Nat → List Nat} {L d px : Nat} {args : List AV} {m : Mem}
theorem ckak0_awrite : pvCall Try.prog KAK0 D L d px 40 args m = callBy fAWrite m px args := pvCall_by rfl
theorem ckak0_w4 : pvCall Try.prog KAK0 D L d px 43 args m = callBy fW4 m px args := pvCall_by rfl
theorem ckak0_aecho : pvCall Try.prog KAK0 D L d px 46 args m = callBy fAEcho m px args := pvCall_by rfl
theorem ckak0_ip4 : pvCall Try.prog KAK0 D L d px 52 args m = callBy fIP4 m px args := pvCall_by rfl
theorem ckak0_aread : pvCall Try.prog KAK0 D L d px 38 args m = callBy fARead m px args := pvCall_by rfl
theorem ckak0_asame : pvCall Try.prog KAK0 D L d px 42 args m = callBy fASame m px args := pvCall_by rfl
end
theorem ekak0_awrite : KAK0 40 = some (.pure fAWrite) := rfl
theorem ekak0_w4 : KAK0 43 = some (.pure fW4) := rfl
theorem ekak0_aecho : KAK0 46 = some (.pure fAEcho) := rfl
theorem ekak0_ip4 : KAK0 52 = some (.pure fIP4) := rfl
theorem ekak0_aread : KAK0 38 = some (.pure fARead) := rfl
theorem ekak0_asame : KAK0 42 = some (.pure fASame) := rfl
attribute [simp] ckak0_awrite ekak0_awrite ckak0_w4 ekak0_w4 ckak0_aecho ekak0_aecho ckak0_ip4 ekak0_ip4 ckak0_aread ekak0_aread ckak0_asame ekak0_asame
theorem eqV_ci' (k : IntKind) (a : Int) (x y : List Value) : eqV (.int k a :: x) (.int k a :: y) = eqV x y := by
  show (decide _ && eqV x y) = _
  simp
theorem eqV_n' : eqV [] [] = true := rfl
theorem ka1 : ewV false [10, 0, 0, 1, 0, 0, 0, 0, 0, 0, 0, 0, 0, 0, 0, 0] [10, 0, 0, 9, 0, 0, 0, 0, 0, 0, 0, 0, 0, 0, 0, 0] false 7 3 [1, 2] = ewC [8, 0, 246, 243, 0, 7, 0, 3, 1, 2] := by kernel_rfl
theorem ka1g : goodE 7 3 [10, 0, 0, 1, 0, 0, 0, 0, 0, 0, 0, 0, 0, 0, 0, 0] [10, 0, 0, 9, 0, 0, 0, 0, 0, 0, 0, 0, 0, 0, 0, 0] [1, 2] 2 := by decide
theorem ka2 : w4V 0 0 false 9 1 [10, 0, 0, 1, 0, 0, 0, 0, 0, 0, 0, 0, 0, 0, 0, 0] [10, 0, 0, 9, 0, 0, 0, 0, 0, 0, 0, 0, 0, 0, 0, 0] [] [8, 0, 246, 243, 0, 7, 0, 3, 1, 2] = ewC [69, 0, 0, 30, 0, 0, 0, 0, 9, 1, 157, 214, 10, 0, 0, 1, 10, 0, 0, 9, 8, 0, 246, 243, 0, 7, 0, 3, 1, 2] := by kernel_rfl
theorem ka2g : good4 0 0 9 1 [10, 0, 0, 1, 0, 0, 0, 0, 0, 0, 0, 0, 0, 0, 0, 0] [10, 0, 0, 9, 0, 0, 0, 0, 0, 0, 0, 0, 0, 0, 0, 0] [] := by decide
theorem ka3 : ekV [69, 0, 0, 30, 0, 0, 0, 0, 9, 1, 157, 214, 10, 0, 0, 1, 10, 0, 0, 9, 8, 0, 246, 243, 0, 7, 0, 3, 1, 2] = ewC [69, 0, 0, 30, 0, 0, 0, 0, 64, 1, 102, 214, 10, 0, 0, 9, 10, 0, 0, 1, 0, 0, 254, 243, 0, 7, 0, 3, 1, 2] := by kernel_rfl
theorem ka4 : ip4V [69, 0, 0, 30, 0, 0, 0, 0, 64, 1, 102, 214, 10, 0, 0, 9, 10, 0, 0, 1, 0, 0, 254, 243, 0, 7, 0, 3, 1, 2] = (.tup [ip4A 0 0 false 64 1 [10, 0, 0, 9, 0, 0, 0, 0, 0, 0, 0, 0, 0, 0, 0, 0] [10, 0, 0, 1, 0, 0, 0, 0, 0, 0, 0, 0, 0, 0, 0, 0] (.own 0 0 0 0 1 (.whole 5)), .own 1 0 0 10 1 (.whole 5), .v (.int .i64 0)], [[], B8 [0, 0, 254, 243, 0, 7, 0, 3, 1, 2]]) := by kernel_rfl
theorem ka5 : ecV false [10, 0, 0, 9, 0, 0, 0, 0, 0, 0, 0, 0, 0, 0, 0, 0] [10, 0, 0, 1, 0, 0, 0, 0, 0, 0, 0, 0, 0, 0, 0, 0] [0, 0, 254, 243, 0, 7, 0, 3, 1, 2] = (.tup [echA true 7 3 (.own 0 0 0 2 1 (.whole 5)), .v (.int .i64 0)], [B8 [1, 2]]) := by kernel_rfl
theorem ka5g : goodM [10, 0, 0, 9, 0, 0, 0, 0, 0, 0, 0, 0, 0, 0, 0, 0] [10, 0, 0, 1, 0, 0, 0, 0, 0, 0, 0, 0, 0, 0, 0, 0] [0, 0, 254, 243, 0, 7, 0, 3, 1, 2] 10 := by decide
theorem ka6 : ekV [69, 0, 0, 30, 0, 0, 0, 0, 64, 1, 102, 214, 10, 0, 0, 9, 10, 0, 0, 1, 0, 0, 254, 243, 0, 7, 0, 3, 1, 2] = ewE 10 := by kernel_rfl
set_option maxHeartbeats 16000000 in
theorem known37_run : runF Try.prog KAK0 Dm 100000 1 37 [] = some (.v (.bool true), []) := by
  have a4 := asI4_at (tos := 0) (id := 0) (df := false) (ttl := 9) (pr := 1) (ss := [10, 0, 0, 1, 0, 0, 0, 0, 0, 0, 0, 0, 0, 0, 0, 0]) (ds := [10, 0, 0, 9, 0, 0, 0, 0, 0, 0, 0, 0, 0, 0, 0, 0]) (cs := []) (len := 0) rfl rfl rfl
  simp only [B8vc, B8vn, List.cons_append, List.nil_append] at a4
  unfold runF
  rw [pvCall_own (fn := Try.f37) rfl Try.func37 rfl (by decide) rfl rfl (by simp)]
  simp -implicitDefEqProofs [a4, ka1, ka1g, ka2, ka2g, ka3, ka4, ka5, ka5g, ka6, fAWrite, fW4, fAEcho, fIP4, fARead, fASame, ewC, ewE, echA, ip4A, splice, bytesB, B8vc, B8vn, asB8_nil'', asB8_cons'', List.replicate_succ, eqV_ci', eqV_n', Nat.testBit_eq_decide_div_mod_eq]
def fKnown37 : Fun
  | [] => some (.v (.bool true), [])
  | _ => none
theorem known37_pure : Pure Try.prog 37 fKnown37 := (runF_pure kak0_ok follows_mixed dm_ok 100000 1 37).weaken fun args r h => by
  unfold fKnown37 at h
  split at h
  · rw [← h]; exact known37_run
  · cases h
noncomputable def KAK : Nat → Option Con
  | 38 => some fARead
  | 39 => some fARead
  | 40 => some fAWrite
  | 41 => some fAWrite
  | 42 => some fASame
  | 37 => some fKnown37
  | _ => none
theorem kak_ok : KOk Try.prog KAK := fun f F h => by
  unfold KAK at h
  split at h
  · cases h; exact ⟨aread_pure, _, Try.func38, rfl, by decide⟩
  · cases h; exact ⟨arread_pure, _, Try.func39, rfl, by decide⟩
  · cases h; exact ⟨awrite_pure, _, Try.func40, rfl, by decide⟩
  · cases h; exact ⟨arwrite_pure, _, Try.func41, rfl, by decide⟩
  · cases h; exact ⟨asame_pure, _, Try.func42, rfl, by decide⟩
  · cases h; exact ⟨known37_pure, _, Try.func37, rfl, by decide⟩
  · cases h
section
variable {D : FuncId → Nat → List Nat} {L d px : Nat} {args : List AV} {m : Mem}
theorem ckak_aread : pvCall Try.prog KAK D L d px 38 args m = callBy fARead m px args := pvCall_by rfl
theorem ckak_arread : pvCall Try.prog KAK D L d px 39 args m = callBy fARead m px args := pvCall_by rfl
theorem ckak_awrite : pvCall Try.prog KAK D L d px 40 args m = callBy fAWrite m px args := pvCall_by rfl
theorem ckak_arwrite : pvCall Try.prog KAK D L d px 41 args m = callBy fAWrite m px args := pvCall_by rfl
theorem ckak_asame : pvCall Try.prog KAK D L d px 42 args m = callBy fASame m px args := pvCall_by rfl
theorem ckak_known : pvCall Try.prog KAK D L d px 37 args m = callBy fKnown37 m px args := pvCall_by rfl
end
theorem ekak_aread : KAK 38 = some (.pure fARead) := rfl
theorem ekak_arread : KAK 39 = some (.pure fARead) := rfl
theorem ekak_awrite : KAK 40 = some (.pure fAWrite) := rfl
theorem ekak_arwrite : KAK 41 = some (.pure fAWrite) := rfl
theorem ekak_asame : KAK 42 = some (.pure fASame) := rfl
theorem ekak_known : KAK 37 = some (.pure fKnown37) := rfl
attribute [simp] ckak_aread ekak_aread ckak_arread ekak_arread ckak_awrite ekak_awrite ckak_arwrite ekak_arwrite ckak_asame ekak_asame ckak_known ekak_known
set_option maxHeartbeats 8000000 in
theorem areads_long (v6 : Bool) (ss ds zs : List Int) (nn : Bool) (cap : Option Nat) (re : Bool) (id nu : Int) (ps : List Int) (xn : Bool) (xc : Option Nat) (hl : zs.length ≤ 9223372036854775807) (hp : ps.length ≤ 9223372036854775807) (hs : ss.length = 16) (hd : ds.length = 16) (hb : 1800 < zs.length ∨ 1800 < ps.length) : (pvCall Try.prog KAK Dm 100000 1 0 11 [.v (.bool v6), .agg (B8 ss), .agg (B8 ds), .sl nn (B8 zs) zs.length cap, echA re id nu (.sl xn (B8 ps) ps.length xc)] (fun _ => none)).map (·.1) = some (.v (.bool true)) := by
  have t1 : ss.take 16 = ss := List.take_of_length_le (by omega)
  have t2 : ds.take 16 = ds := List.take_of_length_le (by omega)
  rw [pvCall_own (fn := Try.f11) rfl Try.func11 rfl (by decide) rfl rfl (by simp)]
  by_cases h : 1800 < zs.length
  · have i1 : (1800 : Int) < (zs.length : Int) := by omega
    simp -implicitDefEqProofs [i1, hs, hd, t1, t2, echA, fKnown37, splice]
  have h2 : 1800 < ps.length := by omega
  have i1 : ¬ (1800 : Int) < (zs.length : Int) := by omega
  have i2 : (1800 : Int) < (ps.length : Int) := by omega
  simp -implicitDefEqProofs [i1, i2, hs, hd, t1, t2, echA, fKnown37, splice]
set_option maxHeartbeats 16000000 in
theorem areads_ee (v6 : Bool) (ss ds zs : List Int) (nn : Bool) (cap : Option Nat) (re : Bool) (id nu : Int) (ps : List Int) (xn : Bool) (xc : Option Nat) (e1 : Int) (hR : ecV v6 ss ds zs = errE e1) (ne1 : ¬ e1 = 0) (hW : ewV v6 ss ds re id nu ps = ewE 3) (h1 : zs.length ≤ 1800) (h2 : ps.length ≤ 1800) (hg : goodM ss ds zs zs.length) (hge : goodE id nu ss ds ps ps.length) : (pvCall Try.prog KAK Dm 100000 1 0 11 [.v (.bool v6), .agg (B8 ss), .agg (B8 ds), .sl nn (B8 zs) zs.length cap, echA re id nu (.sl xn (B8 ps) ps.length xc)] (fun _ => none)).map (·.1) = some (.v (.bool true)) := by
  have hg1 := hg
  obtain ⟨_, _, hs, hd, hz, bs, bd⟩ := hg1
  have u1 : ¬ (1800 : Int) < (zs.length : Int) := by omega
  have u2 : ¬ (1800 : Int) < (ps.length : Int) := by omega
  have l5 : zs.length ≤ 549755813888 := by omega
  have l6 : zs.take zs.length = zs := List.take_length
  have l7 : zs.length ≤ 9223372036854775807 := by omega
  have l8 : ps.take ps.length = ps := List.take_length
  have t1 : ss.take 16 = ss := List.take_of_length_le (by omega)
  have t2 : ds.take 16 = ds := List.take_of_length_le (by omega)
  rw [pvCall_own (fn := Try.f11) rfl Try.func11 rfl (by decide) rfl rfl (by simp)]
  have be1 : (e1 != 0) = true := by simp [ne1]
  simp -implicitDefEqProofs [u1, u2, l5, l6, l7, l8, hs, hd, hz, t1, t2, hg, hge, hR, hW, echA, fARead, fAWrite, fASame, fKnown37, splice, Nat.testBit_eq_decide_div_mod_eq, ewE, asB8_nil'', ne1, be1, errE, noEch, loopK_pos, asB8_nil'']
set_option maxHeartbeats 16000000 in
theorem areads_eo (v6 : Bool) (ss ds zs : List Int) (nn : Bool) (cap : Option Nat) (re : Bool) (id nu : Int) (ps : List Int) (xn : Bool) (xc : Option Nat) (e1 : Int) (hR : ecV v6 ss ds zs = errE e1) (ne1 : ¬ e1 = 0) (W : List Int) (hWl : W.length ≤ 3000) (hW : ewV v6 ss ds re id nu ps = ewC W) (h1 : zs.length ≤ 1800) (h2 : ps.length ≤ 1800) (hg : goodM ss ds zs zs.length) (hge : goodE id nu ss ds ps ps.length) : (pvCall Try.prog KAK Dm 100000 1 0 11 [.v (.bool v6), .agg (B8 ss), .agg (B8 ds), .sl nn (B8 zs) zs.length cap, echA re id nu (.sl xn (B8 ps) ps.length xc)] (fun _ => none)).map (·.1) = some (.v (.bool true)) := by
  have hg1 := hg
  obtain ⟨_, _, hs, hd, hz, bs, bd⟩ := hg1
  have u1 : ¬ (1800 : Int) < (zs.length : Int) := by omega
  have u2 : ¬ (1800 : Int) < (ps.length : Int) := by omega
  have l5 : zs.length ≤ 549755813888 := by omega
  have l6 : zs.take zs.length = zs := List.take_length
  have l7 : zs.length ≤ 9223372036854775807 := by omega
  have l8 : ps.take ps.length = ps := List.take_length
  have t1 : ss.take 16 = ss := List.take_of_length_le (by omega)
  have t2 : ds.take 16 = ds := List.take_of_length_le (by omega)
  rw [pvCall_own (fn := Try.f11) rfl Try.func11 rfl (by decide) rfl rfl (by simp)]
  have w1 : W.length ≤ 9223372036854775807 := by omega
  have w2 : W.take W.length = W := List.take_length
  have be1 : (e1 != 0) = true := by simp [ne1]
  simp -implicitDefEqProofs [u1, u2, l5, l6, l7, l8, hs, hd, hz, t1, t2, hg, hge, hR, hW, echA, fARead, fAWrite, fASame, fKnown37, splice, Nat.testBit_eq_decide_div_mod_eq, ewC, w1, w2, ne1, be1, errE, noEch, loopK_pos, asB8_nil'']
set_option maxHeartbeats 16000000 in
theorem areads_oe (v6 : Bool) (ss ds zs : List Int) (nn : Bool) (cap : Option Nat) (re : Bool) (id nu : Int) (ps : List Int) (xn : Bool) (xc : Option Nat) (b1 : Bool) (i1 n1 : Int) (Q : List Int) (hQ : Q.length ≤ 2000) (hR : ecV v6 ss ds zs = (.tup [echA b1 i1 n1 (.own 0 0 0 Q.length 1 (.whole 5)), .v (.int .i64 0)], [B8 Q])) (hW : ewV v6 ss ds re id nu ps = ewE 3) (h1 : zs.length ≤ 1800) (h2 : ps.length ≤ 1800) (hg : goodM ss ds zs zs.length) (hge : goodE id nu ss ds ps ps.length) : (pvCall Try.prog KAK Dm 100000 1 0 11 [.v (.bool v6), .agg (B8 ss), .agg (B8 ds), .sl nn (B8 zs) zs.length cap, echA re id nu (.sl xn (B8 ps) ps.length xc)] (fun _ => none)).map (·.1) = some (.v (.bool true)) := by
  have hg1 := hg
  obtain ⟨_, _, hs, hd, hz, bs, bd⟩ := hg1
  have u1 : ¬ (1800 : Int) < (zs.length : Int) := by omega
  have u2 : ¬ (1800 : Int) < (ps.length : Int) := by omega
  have l5 : zs.length ≤ 549755813888 := by omega
  have l6 : zs.take zs.length = zs := List.take_length
  have l7 : zs.length ≤ 9223372036854775807 := by omega
  have l8 : ps.take ps.length = ps := List.take_length
  have t1 : ss.take 16 = ss := List.take_of_length_le (by omega)
  have t2 : ds.take 16 = ds := List.take_of_length_le (by omega)
  rw [pvCall_own (fn := Try.f11) rfl Try.func11 rfl (by decide) rfl rfl (by simp)]
  have k1 : Q.length ≤ 500000 := by omega
  have k2 : Q.take Q.length = Q := List.take_length
  simp -implicitDefEqProofs [u1, u2, l5, l6, l7, l8, hs, hd, hz, t1, t2, hg, hge, hR, hW, echA, fARead, fAWrite, fASame, fKnown37, splice, Nat.testBit_eq_decide_div_mod_eq, ewE, asB8_nil'', k1, k2]
  generalize hL : loopK _ _ _ _ _ _ _ _ _ ⟨_, _⟩ = Rp
  obtain ⟨e, t', m', rfl, hkp, hmp, rfl, Zp, fmp, flp⟩ := loop_met5 hL [90, 20, 91, 92, 93, 94, 95, 96, 97, 98, 99, 100] [640]
    (fun j t m => t 90 = .v (.int .i64 (j : Int)) ∧ ∃ Z : List Int, m 640 = some ⟨0, B8 Z⟩ ∧ Z.length = Q.length)
    (fun e t m => e = .exit 0 ∧ ∃ Z : List Int, m 640 = some ⟨0, B8 Z⟩ ∧ Z.length = Q.length) Q.length (by omega) ⟨by simp, Q, by simp, rfl⟩
    (fun j t m hj hk hm ⟨ec, Z, em, hZ⟩ => by
      have e12 := hk 12 (by decide)
      have e89 := hk 89 (by decide)
      have em12 := hm 12 (by decide)
      simp at e12 e89 em12
      by_cases hq : j = Q.length
      · left
        refine ⟨.exit 0, ?t0p, m, by simp, ?a0p, ?b0p, hm, rfl, Z, em, hZ⟩
        case a0p =>
          simp -implicitDefEqProofs [ec, e12, e89, em12, hq]
          exact rfl
        case b0p =>
          repeat' refine Kept.upd ?_ (by decide) _
          exact hk
      · right
        have j1 : (j : Int) < (Q.length : Int) := by omega
        have j2 : j ≤ Q.length := by omega
        have j3 : j < Z.length := by omega
        have j4 := B8_at0 Z j j3
        have j5 : j < Q.length := by omega
        have j7 : j + 1 ≤ Q.length := by omega
        have j8 := B8_mid' (Z.take j) (Z.drop (j + 1))
        have j6 : IntKind.i64.wrap ((j : Int) + 1) = ((j + 1 : Nat) : Int) := by rw [wrap64_id (by omega) (by omega)]; omega
        refine ⟨by omega, ?t1p, ?m1p, ?a1p, ?b1p, ?c1p, ?d1p⟩
        case a1p =>
          simp -implicitDefEqProofs [ec, e12, e89, em12, em, hZ, j1, j2, j4, j5, j6, j7, j8, splice]
          constructor
          · exact rfl
          · exact rfl
        case b1p =>
          repeat' refine Kept.upd ?_ (by decide) _
          exact hk
        case c1p =>
          repeat' refine KeptM.upd ?_ (by decide) _
          exact hm
        case d1p => exact ⟨by simp, Z.take j ++ IntKind.u8.wrap (gb Z j + 1) :: Z.drop (j + 1), by simp, by simp; omega⟩)
  have f3 := hkp 3 (by decide)
  have f11 := hkp 11 (by decide)
  have fm31 := hmp 31 (by decide)
  simp at f3 f11 fm31
  simp -implicitDefEqProofs [f3, f11, fm31, l5, l6, l7, fKnown37, splice, Nat.testBit_eq_decide_div_mod_eq]
set_option maxHeartbeats 16000000 in
theorem areads_oo (v6 : Bool) (ss ds zs : List Int) (nn : Bool) (cap : Option Nat) (re : Bool) (id nu : Int) (ps : List Int) (xn : Bool) (xc : Option Nat) (b1 : Bool) (i1 n1 : Int) (Q : List Int) (hQ : Q.length ≤ 2000) (hR : ecV v6 ss ds zs = (.tup [echA b1 i1 n1 (.own 0 0 0 Q.length 1 (.whole 5)), .v (.int .i64 0)], [B8 Q])) (W : List Int) (hWl : W.length ≤ 3000) (hW : ewV v6 ss ds re id nu ps = ewC W) (h1 : zs.length ≤ 1800) (h2 : ps.length ≤ 1800) (hg : goodM ss ds zs zs.length) (hge : goodE id nu ss ds ps ps.length) : (pvCall Try.prog KAK Dm 100000 1 0 11 [.v (.bool v6), .agg (B8 ss), .agg (B8 ds), .sl nn (B8 zs) zs.length cap, echA re id nu (.sl xn (B8 ps) ps.length xc)] (fun _ => none)).map (·.1) = some (.v (.bool true)) := by
  have hg1 := hg
  obtain ⟨_, _, hs, hd, hz, bs, bd⟩ := hg1
  have u1 : ¬ (1800 : Int) < (zs.length : Int) := by omega
  have u2 : ¬ (1800 : Int) < (ps.length : Int) := by omega
  have l5 : zs.length ≤ 549755813888 := by omega
  have l6 : zs.take zs.length = zs := List.take_length
  have l7 : zs.length ≤ 9223372036854775807 := by omega
  have l8 : ps.take ps.length = ps := List.take_length
  have t1 : ss.take 16 = ss := List.take_of_length_le (by omega)
  have t2 : ds.take 16 = ds := List.take_of_length_le (by omega)
  rw [pvCall_own (fn := Try.f11) rfl Try.func11 rfl (by decide) rfl rfl (by simp)]
  have w1 : W.length ≤ 9223372036854775807 := by omega
  have w2 : W.take W.length = W := List.take_length
  have k1 : Q.length ≤ 500000 := by omega
  have k2 : Q.take Q.length = Q := List.take_length
  simp -implicitDefEqProofs [u1, u2, l5, l6, l7, l8, hs, hd, hz, t1, t2, hg, hge, hR, hW, echA, fARead, fAWrite, fASame, fKnown37, splice, Nat.testBit_eq_decide_div_mod_eq, ewC, w1, w2, k1, k2]
  generalize hL : loopK _ _ _ _ _ _ _ _ _ ⟨_, _⟩ = Rp
  obtain ⟨e, t', m', rfl, hkp, hmp, rfl, Zp, fmp, flp⟩ := loop_met5 hL [90, 20, 91, 92, 93, 94, 95, 96, 97, 98, 99, 100] [640]
    (fun j t m => t 90 = .v (.int .i64 (j : Int)) ∧ ∃ Z : List Int, m 640 = some ⟨0, B8 Z⟩ ∧ Z.length = Q.length)
    (fun e t m => e = .exit 0 ∧ ∃ Z : List Int, m 640 = some ⟨0, B8 Z⟩ ∧ Z.length = Q.length) Q.length (by omega) ⟨by simp, Q, by simp, rfl⟩
    (fun j t m hj hk hm ⟨ec, Z, em, hZ⟩ => by
      have e12 := hk 12 (by decide)
      have e89 := hk 89 (by decide)
      have em12 := hm 12 (by decide)
      simp at e12 e89 em12
      by_cases hq : j = Q.length
      · left
        refine ⟨.exit 0, ?t0p, m, by simp, ?a0p, ?b0p, hm, rfl, Z, em, hZ⟩
        case a0p =>
          simp -implicitDefEqProofs [ec, e12, e89, em12, hq]
          exact rfl
        case b0p =>
          repeat' refine Kept.upd ?_ (by decide) _
          exact hk
      · right
        have j1 : (j : Int) < (Q.length : Int) := by omega
        have j2 : j ≤ Q.length := by omega
        have j3 : j < Z.length := by omega
        have j4 := B8_at0 Z j j3
        have j5 : j < Q.length := by omega
        have j7 : j + 1 ≤ Q.length := by omega
        have j8 := B8_mid' (Z.take j) (Z.drop (j + 1))
        have j6 : IntKind.i64.wrap ((j : Int) + 1) = ((j + 1 : Nat) : Int) := by rw [wrap64_id (by omega) (by omega)]; omega
        refine ⟨by omega, ?t1p, ?m1p, ?a1p, ?b1p, ?c1p, ?d1p⟩
        case a1p =>
          simp -implicitDefEqProofs [ec, e12, e89, em12, em, hZ, j1, j2, j4, j5, j6, j7, j8, splice]
          constructor
          · exact rfl
          · exact rfl
        case b1p =>
          repeat' refine Kept.upd ?_ (by decide) _
          exact hk
        case c1p =>
          repeat' refine KeptM.upd ?_ (by decide) _
          exact hm
        case d1p => exact ⟨by simp, Z.take j ++ IntKind.u8.wrap (gb Z j + 1) :: Z.drop (j + 1), by simp, by simp; omega⟩)
  have f3 := hkp 3 (by decide)
  have f11 := hkp 11 (by decide)
  have fm31 := hmp 31 (by decide)
  simp at f3 f11 fm31
  simp -implicitDefEqProofs [f3, f11, fm31, l5, l6, l7, fKnown37, splice, Nat.testBit_eq_decide_div_mod_eq]
end Go.Proofs.Ytmdafjegddnecaa
