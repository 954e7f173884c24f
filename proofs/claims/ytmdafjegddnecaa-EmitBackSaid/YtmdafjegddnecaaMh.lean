import Derived.Test.YtmdafjegddnecaaMg
import Derived.Test.YtmdafjegddnecaaMe
import Derived.Test.YtmdafjegddnecaaMc
import Derived.Test.YtmdafjegddnecaaMu
import Derived.Test.YtmdafjegddnecaaMf
import Derived.Test.YtmdafjegddnecaaMd
/- What an IP packet says: answer.read and the reference's head as functions of values. -/
namespace Go.Proofs.Ytmdafjegddnecaa
open Go.Pm Go.Wb
set_option linter.unusedVariables false
set_option linter.unusedSimpArgs false
set_option maxRecDepth 1000000
def ewE (e : Int) : AV × List (List AV) := (.tup [.v (.slice none 0 0), .v (.int .i64 e)], [])
def ewC (W : List Int) : AV × List (List AV) := (.tup [.own 0 0 0 W.length 1 (.whole 5), .v (.int .i64 0)], [B8 W])
/-- An echo's number of kind. -/
def kdK (v6 re : Bool) : Int := if re = true then repK v6 else askK v6
/-- An echo's words and data. -/
def ewX (id nu : Int) (ps : List Int) : List Int := id / 256 :: id % 256 :: nu / 256 :: nu % 256 :: ps
/-- A message with its checksum's place full. -/
def ewM (k K : Int) (X : List Int) : List Int := k :: 0 :: K / 256 :: K % 256 :: X
def ewV (v6 : Bool) (ss ds : List Int) (re : Bool) (id nu : Int) (ps : List Int) : AV × List (List AV) := if 1652 < ps.length then ewE 3 else ewC (ewM (kdK v6 re) (skV v6 ss ds (kdK v6 re :: 0 :: 0 :: 0 :: ewX id nu ps)) (ewX id nu ps))
def goodE (id nu : Int) (ss ds ps : List Int) (len : Nat) : Prop := ps.length = len ∧ len ≤ 500000 ∧ ss.length = 16 ∧ ds.length = 16 ∧ bytesB ps = true ∧ bytesB ss = true ∧ bytesB ds = true ∧ 0 ≤ id ∧ id ≤ 65535 ∧ 0 ≤ nu ∧ nu ≤ 65535
instance (id nu : Int) (ss ds ps : List Int) (len : Nat) : Decidable (goodE id nu ss ds ps len) := by unfold goodE; infer_instance
def fAWrite : Fun
  | [.v (.bool v6), .agg a, .agg b, .agg [.v (.bool re), .v (.int .u16 id), .v (.int .u16 nu), .sl nn d len cap]] => (asB8 a).bind fun ss => (asB8 b).bind fun ds => (asB8 d).bind fun ps => if goodE id nu ss ds ps len then some (ewV v6 ss ds re id nu ps) else none
  | _ => none

noncomputable def KAH : Nat → Option Con
  | 52 => some fIP4
  | 130 => some fIP4
  | 22 => some fIP6
  | 129 => some fIP6
  | _ => none
theorem kah_ok : KOk Try.prog KAH := fun f F h => by
  unfold KAH at h
  split at h
  · cases h; exact ⟨ip4_pure, _, Try.func52, rfl, by decide⟩
  · cases h; exact ⟨rip4_pure, _, Try.func130, rfl, by decide⟩
  · cases h; exact ⟨ip6_pure, _, Try.func22, rfl, by decide⟩
  · cases h; exact ⟨rip6_pure, _, Try.func129, rfl, by decide⟩
  · cases h
section
variable {D : FuncId → Nat → List Nat} {L d px : Nat} {args : List AV} {m : Mem}
theorem ckah_ip4 : pvCall Try.prog KAH D L d px 52 args m = callBy fIP4 m px args := pvCall_by rfl
theorem ckah_rip4 : pvCall Try.prog KAH D L d px 130 args m = callBy fIP4 m px args := pvCall_by rfl
theorem ckah_ip6 : pvCall Try.prog KAH D L d px 22 args m = callBy fIP6 m px args := pvCall_by rfl
theorem ckah_rip6 : pvCall Try.prog KAH D L d px 129 args m = callBy fIP6 m px args := pvCall_by rfl
end
theorem ekah_ip4 : KAH 52 = some (.pure fIP4) := rfl
theorem ekah_rip4 : KAH 130 = some (.pure fIP4) := rfl
theorem ekah_ip6 : KAH 22 = some (.pure fIP6) := rfl
theorem ekah_rip6 : KAH 129 = some (.pure fIP6) := rfl
attribute [simp] ckah_ip4 ekah_ip4 ckah_rip4 ekah_rip4 ckah_ip6 ekah_ip6 ckah_rip6 ekah_rip6
def an6 (zs : List Int) : Bool := decide (gb zs 0 / 16 = 6)
def anBad (zs : List Int) : Prop := zs.length = 0 ∨ (¬ gb zs 0 / 16 = 4 ∧ ¬ gb zs 0 / 16 = 6)
instance (zs : List Int) : Decidable (anBad zs) := by unfold anBad; infer_instance
def anC (zs : List Int) : Int × Int × Int := chainF 9 (gb zs 6) ((zs.drop 40).take (len6 zs)) 0 0
def an6E (zs : List Int) : Int := if zs.length < 40 then 4 else if ¬ gb zs 0 / 16 = 6 then 5 else if zs.length < 40 + len6 zs then 4 else (anC zs).2.2
def anE (zs : List Int) : Int := if an6 zs = true then an6E zs else chk4 zs
def anS (zs : List Int) : List Int := if an6 zs = true then (zs.drop 8).take 16 else ad4 (zs.drop 12)
def anD (zs : List Int) : List Int := if an6 zs = true then (zs.drop 24).take 16 else ad4 (zs.drop 16)
def anP (zs : List Int) : Int := if an6 zs = true then (anC zs).1 else gb zs 9
def anN (zs : List Int) : Nat := if an6 zs = true then 40 + (anC zs).2.1.toNat else hl4 zs
def anR (zs : List Int) : List Int := if an6 zs = true then (zs.drop (40 + (anC zs).2.1.toNat)).take (len6 zs - (anC zs).2.1.toNat) else (zs.drop (hl4 zs)).take ((w16 zs 2).toNat - hl4 zs)
def hdA (v6 : Bool) (S D : List Int) (pr n : Int) (rest : AV) : AV := .agg (.v (.bool v6) :: (B8 S ++ (B8 D ++ [.v (.int .u8 pr), .v (.int .i64 n), rest])))
def anHd (zs : List Int) : AV := if anBad zs then hdA false z16 z16 0 0 (.v (.slice none 0 0)) else if ¬ anE zs = 0 then hdA (an6 zs) z16 z16 0 (if an6 zs = true then 40 else 20) (.v (.slice none 0 0)) else hdA (an6 zs) (anS zs) (anD zs) (anP zs) (anN zs) (.own 0 0 0 (anR zs).length 1 (.whole 5))
def anEr (zs : List Int) : Int := if anBad zs then 5 else anE zs
def anB (zs : List Int) : List (List AV) := if anEr zs = 0 then [B8 (anR zs)] else []
def arhV (zs : List Int) : AV × List (List AV) := (.tup [anHd zs, .v (.int .i64 (anEr zs))], anB zs)
def verA (v6 : Bool) : AV := if v6 = true then .agg [.v (.int .u8 128), .v (.int .u8 129), .v (.int .u8 58), .v (.int .u16 1280), .fn (.func 173) [] [], .fn (.func 174) [] [], .fn (.func 175) [] []] else .agg [.v (.int .u8 8), .v (.int .u8 0), .v (.int .u8 1), .v (.int .u16 68), .fn (.func 170) [] [], .fn (.func 171) [] [], .fn (.func 172) [] []]
def noVer : AV := .agg [.v (.int .u8 0), .v (.int .u8 0), .v (.int .u8 0), .v (.int .u16 0), .v .nilFunc, .v .nilFunc, .v .nilFunc]
def anVer (zs : List Int) : AV := if anBad zs then noVer else verA (an6 zs)
def ahV (zs : List Int) : AV × List (List AV) := (.tup [anHd zs, anVer zs, .v (.int .i64 (anEr zs))], anB zs)
theorem B8d35 {ss : List Int} (h : ss.length = 16) (T : List AV) : (B8 ss ++ T).drop 35 = T.drop 19 := by
  rw [show (35 : Nat) = 16 + 19 from rfl, ← List.drop_drop, B8d16 h]
theorem B8d19 {ss : List Int} (h : ss.length = 16) (T : List AV) : (B8 ss ++ T).drop 19 = T.drop 3 := by
  rw [show (19 : Nat) = 16 + 3 from rfl, ← List.drop_drop, B8d16 h]
theorem B8t35 {ss : List Int} (h : ss.length = 16) (T : List AV) : (B8 ss ++ T).take 35 = B8 ss ++ T.take 19 := by
  rw [List.take_append, B8_length, h, List.take_of_length_le (by simp [h])]
theorem B8t19 {ss : List Int} (h : ss.length = 16) (T : List AV) : (B8 ss ++ T).take 19 = B8 ss ++ T.take 3 := by
  rw [List.take_append, B8_length, h, List.take_of_length_le (by simp [h])]
theorem ip6V_e {zs : List Int} (h6 : gb zs 0 / 16 = 6) : ip6V zs = if an6E zs = 0 then ip6R zs (anC zs).1 (anC zs).2.1.toNat (len6 zs) else err6 (an6E zs) := by
  unfold ip6V an6E anC
  by_cases h1 : zs.length < 40
  · simp [h1]
  by_cases h2 : zs.length < 40 + len6 zs
  · simp [h1, h2, h6]
  simp [h1, h2, h6]
theorem an6E_ok {zs : List Int} (h6 : gb zs 0 / 16 = 6) (h : an6E zs = 0) : 40 ≤ zs.length ∧ 40 + len6 zs ≤ zs.length ∧ (anC zs).2.2 = 0 := by
  unfold an6E at h
  by_cases h1 : zs.length < 40
  · simp [h1] at h
  by_cases h2 : zs.length < 40 + len6 zs
  · simp [h1, h2, h6] at h
  simp [h1, h2, h6] at h
  exact ⟨by omega, by omega, h⟩
theorem an6_n {zs : List Int} (hz : bytesB zs = true) (h6 : gb zs 0 / 16 = 6) (h : an6E zs = 0) : (anC zs).2.1.toNat ≤ len6 zs := by
  obtain ⟨_, hL, hc⟩ := an6E_ok h6 h
  rcases chain6_out hz hL _ rfl with ⟨h1, _⟩ | ⟨h1, n, h2, h3, _⟩
  · exact absurd hc h1
  · unfold anC; rw [h2]; exact h3
end Go.Proofs.Ytmdafjegddnecaa

/- answer.IsMay, addresses that are unspecified, packets of ICMP. -/
namespace Go.Proofs.Ytmdafjegddnecaa
open Go.Pm Go.Wb
set_option linter.unusedVariables false
set_option linter.unusedSimpArgs false
set_option maxRecDepth 1000000
theorem an_ok {zs : List Int} (hl : zs.length ≤ 500000) (hz : bytesB zs = true) (h : anEr zs = 0) : anHd zs = hdA (an6 zs) (anS zs) (anD zs) (anP zs) (anN zs) (.own 0 0 0 (anR zs).length 1 (.whole 5)) ∧ anB zs = [B8 (anR zs)] ∧ anVer zs = verA (an6 zs) ∧ (anS zs).length = 16 ∧ (anD zs).length = 16 ∧ bytesB (anS zs) = true ∧ bytesB (anD zs) = true ∧ bytesB (anR zs) = true ∧ anN zs + (anR zs).length ≤ zs.length ∧ 20 ≤ anN zs ∧ (anR zs).length ≤ 65535 := by
  have hb : ¬ anBad zs := by
    intro hb
    unfold anEr at h
    rw [if_pos hb] at h
    cases h
  have he : anE zs = 0 := by unfold anEr at h; rwa [if_neg hb] at h
  have g4 := gb_range hz 4
  have g5 := gb_range hz 5
  have w2 := w16_range (bytesB_iff.1 hz) 2
  refine ⟨by unfold anHd; rw [if_neg hb, if_neg (by simp [he])], by unfold anB; rw [if_pos h], by unfold anVer; rw [if_neg hb], ?_⟩
  cases hv : an6 zs with
  | true =>
    have h6 : gb zs 0 / 16 = 6 := by simpa [an6] using hv
    have hE : anE zs = an6E zs := by unfold anE; rw [if_pos hv]
    rw [hE] at he
    obtain ⟨h40, hL, _⟩ := an6E_ok h6 he
    have hn := an6_n hz h6 he
    have l6 : len6 zs ≤ 65535 := by unfold len6; omega
    simp only [anS, anD, anN, anR, hv, if_true]
    refine ⟨by simp; omega, by simp; omega, bytesB_take (bytesB_drop hz _) _, bytesB_take (bytesB_drop hz _) _, bytesB_take (bytesB_drop hz _) _, by simp; omega, by omega, by simp; omega⟩
  | false =>
    have hE : anE zs = chk4 zs := by unfold anE; rw [if_neg (by simp [hv])]
    rw [hE] at he
    obtain ⟨q1, q2, q3, q4, q5, q6, q7, q8, q9, q10⟩ := chk4_ok he
    have aa : ∀ xs : List Int, bytesB xs = true → bytesB (ad4 xs) = true := by
      intro xs hx
      have a0 := gb_range hx 0
      have a1 := gb_range hx 1
      have a2 := gb_range hx 2
      have a3 := gb_range hx 3
      simp [ad4, bytesB_cons, a0, a1, a2, a3]
      rfl
    simp only [anS, anD, anN, anR, hv, if_false, Bool.false_eq_true]
    refine ⟨rfl, rfl, aa _ (bytesB_drop hz _), aa _ (bytesB_drop hz _), bytesB_take (bytesB_drop hz _) _, by simp; omega, by omega, by simp; omega⟩
theorem an_err {zs : List Int} (h : ¬ anEr zs = 0) : ∃ v n V, anHd zs = hdA v z16 z16 0 n (.v (.slice none 0 0)) ∧ anB zs = [] ∧ anVer zs = V ∧ (V = noVer ∨ V = verA true ∨ V = verA false) := by
  by_cases hb : anBad zs
  · exact ⟨false, 0, noVer, by unfold anHd; rw [if_pos hb], by unfold anB; rw [if_neg h], by unfold anVer; rw [if_pos hb], .inl rfl⟩
  · have he : ¬ anE zs = 0 := by unfold anEr at h; rwa [if_neg hb] at h
    refine ⟨an6 zs, _, _, by unfold anHd; rw [if_neg hb, if_pos he], by unfold anB; rw [if_neg h], rfl, ?_⟩
    unfold anVer
    rw [if_neg hb]
    cases an6 zs <;> simp
theorem an_4 {zs : List Int} (h : anEr zs = 0) (hv : an6 zs = false) : 20 ≤ zs.length := by
  have hb : ¬ anBad zs := by
    intro hb
    unfold anEr at h
    rw [if_pos hb] at h
    cases h
  have he : anE zs = 0 := by unfold anEr at h; rwa [if_neg hb] at h
  unfold anE at he
  rw [if_neg (by simp [hv])] at he
  exact (chk4_ok he).1
def mayV (zs : List Int) : Bool := decide (anEr zs = 0) && (an6 zs || decide (gb zs 6 / 64 % 2 = 1))
end Go.Proofs.Ytmdafjegddnecaa

/- answer.Echo and the reference's as functions of values. -/
namespace Go.Proofs.Ytmdafjegddnecaa
open Go.Pm Go.Wb
set_option linter.unusedVariables false
set_option linter.unusedSimpArgs false
set_option maxRecDepth 1000000
def ownP (v6 : Bool) : Int := if v6 = true then 58 else 1
def manyB (v6 : Bool) (S : List Int) : Bool := if v6 = true then decide (gb S 0 = 255) else decide (224 ≤ gb S 0)
def pkV (v6 : Bool) (S D b : List Int) : AV × List (List AV) := if v6 = true then w6V 0 0 58 58 64 S D [] b else w4V 0 0 false 64 1 S D [] b
theorem pk_form (v6 : Bool) (S D b : List Int) : (∃ e, ¬ e = 0 ∧ pkV v6 S D b = ewE e) ∨ (∃ W, pkV v6 S D b = ewC W) := by
  unfold pkV
  cases v6 with
  | true =>
    simp only [if_true]
    unfold w6V
    split
    · exact .inl ⟨_, by decide, rfl⟩
    split
    · exact .inl ⟨_, by decide, rfl⟩
    · exact .inr ⟨_, rfl⟩
  | false =>
    simp only [Bool.false_eq_true, if_false]
    unfold w4V
    split
    · rename_i q; exact .inl ⟨_, q, rfl⟩
    split
    · exact .inl ⟨_, by decide, rfl⟩
    split
    · exact .inl ⟨_, by decide, rfl⟩
    · exact .inr ⟨_, rfl⟩
theorem good6_pk {S D : List Int} (hS : S.length = 16) (hD : D.length = 16) (bS : bytesB S = true) (bD : bytesB D = true) : good6 0 0 58 58 64 S D [] := ⟨by decide, by decide, by decide, by decide, by decide, by decide, by decide, by decide, by decide, by decide, hS, hD, bS, bD, rfl, by decide⟩
theorem good4_pk {S D : List Int} (hS : S.length = 16) (hD : D.length = 16) (bS : bytesB S = true) (bD : bytesB D = true) : good4 0 0 64 1 S D [] := ⟨by decide, by decide, by decide, by decide, by decide, by decide, by decide, by decide, hS, hD, bS, bD, rfl, by decide⟩
end Go.Proofs.Ytmdafjegddnecaa
